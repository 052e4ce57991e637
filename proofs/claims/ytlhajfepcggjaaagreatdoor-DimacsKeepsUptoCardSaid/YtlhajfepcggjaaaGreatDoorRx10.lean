/- Lean functions of the Go functions that the laws of this seat reach, and the proof that each call comes to them: written by a program of this session (wip/printx.sh) over the kit's print. No conditions. -/
import Derived.Test.YtlhajfepcggjaaaGreatDoorRx0
import Derived.Test.YtlhajfepcggjaaaGreatDoorRx4
import Derived.Test.YtlhajfepcggjaaaGreatDoorRx5
import Derived.Test.YtlhajfepcggjaaaGreatDoorRx9
import Derived.Test.YtlhajfepcggjaaaGreatDoorEValueU
namespace Go.Proofs.YtlhajfepcggjaaaGreatDoor.R
open Go.RowKit Go.Proofs.YtlhajfepcggjaaaGreatDoorW.PrintWords Go.Proofs.YtlhajfepcggjaaaGreatDoorW.PrintLast Go.Proofs.YtlhajfepcggjaaaGreatDoorW.PrintMore
attribute [local go_sem] max2_int min2_int max_two min_two max_three min_three max_four min_four   -- for this text's walks alone
set_option linter.unusedVariables false
set_option linter.unusedSimpArgs false

/-! ### depotref03_Read: function 29 -/
mutual
def depotref03_Read.l0 : Nat → List ByteArray → List (S84) → List Int → Int → Int → List (List Int) → Option (Int × (List (List Int)) × Int × Int)
 | 0, _, _, _, _, _, _ => none
 | k + 1, x5, x6, x8, x9, x248000, x248001 => if x9 < (x6.length : Int) then (if 0 ≤ x9 then ((depotref03_Tens.f k ((rd_T84 x6 x9).f0)).bind fun t249 => (if t249 = true then ((depotref03_Value.f ((rd_T84 x6 x9).f0)).bind fun t252 => (if t252 > x248000 then (depotref03_Read.j1 k x5 x6 x8 x9 t252 true x248000 x248001) else (depotref03_Read.j1 k x5 x6 x8 x9 t252 (decide (t252 < (wrap64 (-x248000)))) x248000 x248001))) else (some (0, ([] : List (List Int)), 31, (rd_T84 x6 x9).f1)))) else (none)) else (if (x8.length : Int) > 0 then (some (0, ([] : List (List Int)), 33, wrap64 ((x5.length : Int) + 1))) else (if 3 < (x6.length : Int) then ((depotref03_Value.f ((rd_T84 x6 3).f0)).bind fun t261 => (if (x248001.length : Int) = t261 then (some (x248000, x248001, 0, 0)) else (some (0, ([] : List (List Int)), 34, wrap64 ((x5.length : Int) + 1))))) else (none)))
def depotref03_Read.j1 : Nat → List ByteArray → List (S84) → List Int → Int → Int → Bool → Int → List (List Int) → Option (Int × (List (List Int)) × Int × Int)
 | 0, _, _, _, _, _, _, _, _ => none
 | k + 1, x5, x6, x8, x9, x10, x71, x248000, x248001 => if x71 = true then (if 0 ≤ x9 then (if x9 < (x6.length : Int) then (some (0, ([] : List (List Int)), 32, (rd_T84 x6 x9).f1)) else (none)) else (none)) else (if x10 = 0 then (if x248001.length < 5864062014805 then (depotref03_Read.l0 k x5 x6 ([] : List Int) (wrap64 (x9 + 1)) x248000 (x248001 ++ [x8])) else (none)) else (if x8.length < 17592186044416 then (depotref03_Read.l0 k x5 x6 (x8 ++ [x10]) (wrap64 (x9 + 1)) x248000 x248001) else (none)))
end
def depotref03_Read.f (k : Nat) (a0 : ByteArray) : Option (Int × (List (List Int)) × Int × Int) := (depotref03_Lines.f k a0).bind fun t237 => ((depotref03_Spoken.f k t237).bind fun t240 => (if (t240.length : Int) = 0 then (some (0, ([] : List (List Int)), 30, wrap64 ((t237.length : Int) + 1))) else ((depotref03_head.f k t240).bind fun t243 => (if t243 = true then (if 2 < (t240.length : Int) then ((depotref03_Value.f ((rd_T84 t240 2).f0)).bind fun t246 => (depotref03_Read.l0 k t237 t240 ([] : List Int) 4 t246 ([] : List (List Int)))) else (none)) else (if 0 < (t240.length : Int) then (some (0, ([] : List (List Int)), 30, (rd_T84 t240 0).f1)) else (none))))))
def depotref03_Read.T6 : Bool × List (List Nat × List Nat) := (true, [([], []), ([], []), ([1], [1]), ([2], [2]), ([3], [3]), ([0, 0], [0]), ([5, 0, 5], []), ([4, 6, 0, 1, 2, 3, 4, 5, 6], [4])])
def depotref03_Read.B6 : List Nat := [0, 0, 2, 6, 14, 1, 33, 127]
theorem depotref03_Read.tab6 : rtab .any (opsOf Tryz.f29 6) = depotref03_Read.T6 := by kernel_rfl
theorem depotref03_Read.bits6 : waitsOk depotref03_Read.T6.2 depotref03_Read.B6 = true := by kernel_rfl
def depotref03_Read.T13 : Bool × List (List Nat × List Nat) := (true, [([], []), ([], []), ([], []), ([1, 2], [1, 2]), ([3], [3]), ([4], [4]), ([0, 0], [0]), ([6, 0, 6], []), ([5, 7, 0, 1, 2, 3, 4, 5, 6, 7], [5])])
def depotref03_Read.B13 : List Nat := [0, 0, 0, 6, 14, 30, 1, 65, 255]
theorem depotref03_Read.tab13 : rtab .any (opsOf Tryz.f29 13) = depotref03_Read.T13 := by kernel_rfl
theorem depotref03_Read.bits13 : waitsOk depotref03_Read.T13.2 depotref03_Read.B13 = true := by kernel_rfl
def depotref03_Read.T16 : Bool × List (List Nat × List Nat) := (true, [([], []), ([], []), ([], []), ([1, 2], [1, 2]), ([3], [3]), ([4], [4]), ([0, 0], [0]), ([6, 0, 6], []), ([5, 7, 0, 1, 2, 3, 4, 5, 6, 7], [5])])
def depotref03_Read.B16 : List Nat := [0, 0, 0, 6, 14, 30, 1, 65, 255]
theorem depotref03_Read.tab16 : rtab .any (opsOf Tryz.f29 16) = depotref03_Read.T16 := by kernel_rfl
theorem depotref03_Read.bits16 : waitsOk depotref03_Read.T16.2 depotref03_Read.B16 = true := by kernel_rfl
def depotref03_Read.T23 : Bool × List (List Nat × List Nat) := (true, [([], []), ([0], [0]), ([1], [1]), ([], []), ([3], [3]), ([4], [4]), ([5], [5]), ([6], [6]), ([2, 7], [2, 7])])
def depotref03_Read.B23 : List Nat := [0, 1, 3, 0, 8, 24, 56, 120, 255]
theorem depotref03_Read.tab23 : rtab .any (opsOf Tryz.f29 23) = depotref03_Read.T23 := by kernel_rfl
theorem depotref03_Read.bits23 : waitsOk depotref03_Read.T23.2 depotref03_Read.B23 = true := by kernel_rfl
set_option maxHeartbeats 8000000 in
set_option maxRecDepth 100000 in
theorem depotref03_Read.calls (k : Nat) (a0 : ByteArray) (r1 : Int) (r2 : List (List Int)) (r3 : Int) (r4 : Int) (w : World) (hE : Env w) (h : depotref03_Read.f k a0 = some (r1, r2, r3, r4)) :
  Calls Tryz.prog 29 #[.string a0] w fun e w' => ∃ v1_ : Value, e = .returned (.tuple #[.agg #[.int .i64 r1, v1_], .int .i64 r3, .int .i64 r4]) ∧ Kd.S (Kd.slice 3 (Kd.int .i64)) 43 w' w.heap.size (fun _ => True) v1_ r2 ∧ Below w.heap.size w w' := by
 have hu24 := Tryz.underlying24
 have HB := Aside0.mk (Below.refl w.heap.size w)
 have HE := Aside0.mk hE
 clear hE
 have H : ((depotref03_Lines.f k a0).bind fun t237 => ((depotref03_Spoken.f k t237).bind fun t240 => (if (t240.length : Int) = 0 then (some (0, ([] : List (List Int)), 30, wrap64 ((t237.length : Int) + 1))) else ((depotref03_head.f k t240).bind fun t243 => (if t243 = true then (if 2 < (t240.length : Int) then ((depotref03_Value.f ((rd_T84 t240 2).f0)).bind fun t246 => (depotref03_Read.l0 k t237 t240 ([] : List Int) 4 t246 ([] : List (List Int)))) else (none)) else (if 0 < (t240.length : Int) then (some (0, ([] : List (List Int)), 30, (rd_T84 t240 0).f1)) else (none))))))) = some (r1, r2, r3, r4) := h
 clear h
 replace H := Option.bind_eq_some_iff.mp H
 obtain ⟨t237, A20, H⟩ := H
 replace H : ((depotref03_Spoken.f k t237).bind fun t240 => (if (t240.length : Int) = 0 then (some (0, ([] : List (List Int)), 30, wrap64 ((t237.length : Int) + 1))) else ((depotref03_head.f k t240).bind fun t243 => (if t243 = true then (if 2 < (t240.length : Int) then ((depotref03_Value.f ((rd_T84 t240 2).f0)).bind fun t246 => (depotref03_Read.l0 k t237 t240 ([] : List Int) 4 t246 ([] : List (List Int)))) else (none)) else (if 0 < (t240.length : Int) then (some (0, ([] : List (List Int)), 30, (rd_T84 t240 0).f1)) else (none)))))) = some (r1, r2, r3, r4) := H
 have A2 := Aside0.mk A20
 clear A20
 replace H := Option.bind_eq_some_iff.mp H
 obtain ⟨t240, A30, H⟩ := H
 replace H : (if (t240.length : Int) = 0 then (some (0, ([] : List (List Int)), 30, wrap64 ((t237.length : Int) + 1))) else ((depotref03_head.f k t240).bind fun t243 => (if t243 = true then (if 2 < (t240.length : Int) then ((depotref03_Value.f ((rd_T84 t240 2).f0)).bind fun t246 => (depotref03_Read.l0 k t237 t240 ([] : List Int) 4 t246 ([] : List (List Int)))) else (none)) else (if 0 < (t240.length : Int) then (some (0, ([] : List (List Int)), 30, (rd_T84 t240 0).f1)) else (none))))) = some (r1, r2, r3, r4) := H
 have A3 := Aside0.mk A30
 clear A30
 by_cases c4 : (t240.length : Int) = 0
 ·rw [if_pos c4] at H
  have c4b0 : ((t240.length : Int) == 0) = true := beq_iff_eq.mpr c4
  have c4b1 : ((t240.length : Int) != 0) = false := bne_eq_false_iff_eq.mpr c4
  clear c4
  simp only [Option.some.injEq, Prod.mk.injEq] at H
  obtain ⟨rfl, rfl, rfl, rfl⟩ := H
  go_enter Tryz.func29, Tryz.ntmps29
  go_wp2_with (first | ((with_reducible refine gate_dst (N := 2) rfl ?_); refine box_event ?hg (N := 2) ?hd (cs := #[.int .i64 0, .slice none 0 0]) (t := 24) ?hr ?_; (case hd => rfl); (case hg => rfl); (case hr => ((go_simp; done))); intro gb236 hg w5 hbox hb; have n0_ := Aside0.mk (below_step (by repeat ((with_reducible exact HB.out))) hb); have n1_ := Aside0.mk (hbox); have n2_ := Aside0.mk ((by rw [hg]; exact (below_size (by repeat ((with_reducible exact HB.out)))) : w.heap.size ≤ gb236)); have n3_ := Aside0.mk ((by rw [hg]; exact (below_size (by repeat ((with_reducible exact HB.out)))) : w.heap.size ≤ gb236)); clear HB; have HB := n0_; have BK236 := n1_; have GW236 := n2_; have GE236 := n3_; clear n0_ n1_ n2_ n3_; clear hb hbox hg) | ((with_reducible refine gate_callee (f := 46) rfl ?_); refine goesL_ (some 12) rfl rfl Tryz.func46 (by kernel_rfl) rfl #[.string a0] rfl (by (try simp only [List.map_toArray, List.map_cons, List.map_nil]); rfl) ?_; (with_reducible refine (depotref03_Lines.calls k a0 t237 _ A2.out).mono ?_); rintro e w6 ⟨v238, rfl, ho0, hb⟩; refine ⟨_, rfl, ?_⟩; have n0_ := Aside0.mk (Kd.R_lower ho0 (below_size (by repeat ((with_reducible exact HB.out))))); have n1_ := Aside0.mk (blk_below (g := gb236) (o := .cells #[.int .i64 0, .slice none 0 0] 24 (0, 0)) (by (with_reducible repeat (fail)); exact BK236.out) hb); have n2_ := Aside0.mk (below_step (by repeat ((with_reducible exact HB.out))) hb); clear BK236; clear HB; have HO239 := n0_; have BK236 := n1_; have HB := n2_; clear n0_ n1_ n2_; (try clear hb); (try clear hb2); (try clear hk); (try clear hi); (try clear ho0); obtain ⟨Ao7, co7, eo7⟩ := Kd.R_slice HO239.out; subst eo7) | ((with_reducible refine gate_callee (f := 47) rfl ?_); refine goesL_ (some 14) rfl rfl Tryz.func47 (by kernel_rfl) rfl #[.slice Ao7 t237.length co7] rfl (by (try simp only [List.map_toArray, List.map_cons, List.map_nil]); rfl) ?_; (with_reducible refine (depotref03_Spoken.calls k _ _ t237 t240 _ ?side1 ?side2 A3.out).mono ?_); (case side1 => repeat (exact (Kd.R_reads' HO239.out).2.2)); (case side2 => exact (Kd.R_reads' HO239.out).2.1); rintro e w8 ⟨v241, rfl, ho0, hb⟩; refine ⟨_, rfl, ?_⟩; have n0_ := Aside0.mk (Kd.R_below (by (with_reducible repeat (fail)); exact HO239.out) hb); have n1_ := Aside0.mk (Kd.R_lower ho0 (below_size (by repeat ((with_reducible exact HB.out))))); have n2_ := Aside0.mk (blk_below (g := gb236) (o := .cells #[.int .i64 0, .slice none 0 0] 24 (0, 0)) (by (with_reducible repeat (fail)); exact BK236.out) hb); have n3_ := Aside0.mk (below_step (by repeat ((with_reducible exact HB.out))) hb); clear HO239; clear BK236; clear HB; have HO239 := n0_; have HO242 := n1_; have BK236 := n2_; have HB := n3_; clear n0_ n1_ n2_ n3_; (try clear hb); (try clear hb2); (try clear hk); (try clear hi); (try clear ho0); obtain ⟨Ao9, co9, eo9⟩ := Kd.R_slice HO242.out; subst eo9; have hcz10_0 : w8.cell? ⟨gb236, 0, none⟩ = some (.int .i64 0) := (blk_cell BK236.out 0).trans rfl; have hcz10_1 : w8.cell? ⟨gb236, 1, none⟩ = some (.slice none 0 0) := (blk_cell BK236.out 1).trans rfl; have hfz10_0 := blk_frozen BK236.out 0; have hfz10_1 := blk_frozen BK236.out 1))
  refine bodyPost_ret (results_ctt rfl _ _ gb236 24 #[.int .i64 0, .slice none 0 0] (0, 0) _ rfl (by (with_reducible repeat (fail)); refine blk_put (cs := #[.int .i64 0, .slice none 0 0]) ?_ 1 _ rfl; (with_reducible repeat (fail)); refine blk_put (cs := #[.int .i64 0, .slice none 0 0]) ?_ 0 _ rfl; (with_reducible repeat (fail)); exact BK236.out) Tryz.underlying24 rfl (by kernel_rfl)) rfl ?_
  exact ⟨_, by rfl, by exact Kd.S_nil _ _ _ _ _, by repeat ((with_reducible first | exact HB.out | refine below_set ?_ GE236.out))⟩
 ·rw [if_neg c4] at H
  have c4b0 : ((t240.length : Int) == 0) = false := beq_eq_false_iff_ne.mpr c4
  have c4b1 : ((t240.length : Int) != 0) = true := bne_iff_ne.mpr c4
  have c4b2 : ¬ (t240 = []) := fun h_ => c4 (by rw [h_]; rfl)
  replace H := Option.bind_eq_some_iff.mp H
  obtain ⟨t243, A110, H⟩ := H
  replace H : (if t243 = true then (if 2 < (t240.length : Int) then ((depotref03_Value.f ((rd_T84 t240 2).f0)).bind fun t246 => (depotref03_Read.l0 k t237 t240 ([] : List Int) 4 t246 ([] : List (List Int)))) else (none)) else (if 0 < (t240.length : Int) then (some (0, ([] : List (List Int)), 30, (rd_T84 t240 0).f1)) else (none))) = some (r1, r2, r3, r4) := H
  have A11 := Aside0.mk A110
  clear A110
  by_cases c12 : t243 = true
  ·subst c12
   have H1 : (if 2 < (t240.length : Int) then ((depotref03_Value.f ((rd_T84 t240 2).f0)).bind fun t246 => (depotref03_Read.l0 k t237 t240 ([] : List Int) 4 t246 ([] : List (List Int)))) else (none)) = some (r1, r2, r3, r4) := by rw [if_pos rfl] at H; exact H
   clear H
   have H := H1
   clear H1
   by_cases c13 : 2 < (t240.length : Int)
   ·rw [if_pos c13] at H
    have c13b0 : decide (2 < (t240.length : Int)) = true := decide_eq_true c13
    have c13b1 : decide (2 < t240.length) = true := decide_eq_true (by omega)
    clear c13
    replace H := Option.bind_eq_some_iff.mp H
    obtain ⟨t246, A140, H⟩ := H
    replace H : (depotref03_Read.l0 k t237 t240 ([] : List Int) 4 t246 ([] : List (List Int))) = some (r1, r2, r3, r4) := H
    have A14 := Aside0.mk A140
    clear A140
    have H' := Aside0.mk H
    clear H
    go_enter Tryz.func29, Tryz.ntmps29
    go_wp2_with (first | ((with_reducible refine gate_dst (N := 2) rfl ?_); refine box_event ?hg (N := 2) ?hd (cs := #[.int .i64 0, .slice none 0 0]) (t := 24) ?hr ?_; (case hd => rfl); (case hg => rfl); (case hr => ((go_simp; done))); intro gb236 hg w15 hbox hb; have n0_ := Aside0.mk (below_step (by repeat ((with_reducible exact HB.out))) hb); have n1_ := Aside0.mk (hbox); have n2_ := Aside0.mk ((by rw [hg]; exact (below_size (by repeat ((with_reducible exact HB.out)))) : w.heap.size ≤ gb236)); have n3_ := Aside0.mk ((by rw [hg]; exact (below_size (by repeat ((with_reducible exact HB.out)))) : w.heap.size ≤ gb236)); clear HB; have HB := n0_; have BK236 := n1_; have GW236 := n2_; have GE236 := n3_; clear n0_ n1_ n2_ n3_; clear hb hbox hg) | ((with_reducible refine gate_callee (f := 46) rfl ?_); refine goesL_ (some 12) rfl rfl Tryz.func46 (by kernel_rfl) rfl #[.string a0] rfl (by (try simp only [List.map_toArray, List.map_cons, List.map_nil]); rfl) ?_; (with_reducible refine (depotref03_Lines.calls k a0 t237 _ A2.out).mono ?_); rintro e w16 ⟨v238, rfl, ho0, hb⟩; refine ⟨_, rfl, ?_⟩; have n0_ := Aside0.mk (Kd.R_lower ho0 (below_size (by repeat ((with_reducible exact HB.out))))); have n1_ := Aside0.mk (blk_below (g := gb236) (o := .cells #[.int .i64 0, .slice none 0 0] 24 (0, 0)) (by (with_reducible repeat (fail)); exact BK236.out) hb); have n2_ := Aside0.mk (below_step (by repeat ((with_reducible exact HB.out))) hb); clear BK236; clear HB; have HO239 := n0_; have BK236 := n1_; have HB := n2_; clear n0_ n1_ n2_; (try clear hb); (try clear hb2); (try clear hk); (try clear hi); (try clear ho0); obtain ⟨Ao17, co17, eo17⟩ := Kd.R_slice HO239.out; subst eo17) | ((with_reducible refine gate_callee (f := 47) rfl ?_); refine goesL_ (some 14) rfl rfl Tryz.func47 (by kernel_rfl) rfl #[.slice Ao17 t237.length co17] rfl (by (try simp only [List.map_toArray, List.map_cons, List.map_nil]); rfl) ?_; (with_reducible refine (depotref03_Spoken.calls k _ _ t237 t240 _ ?side1 ?side2 A3.out).mono ?_); (case side1 => repeat (exact (Kd.R_reads' HO239.out).2.2)); (case side2 => exact (Kd.R_reads' HO239.out).2.1); rintro e w18 ⟨v241, rfl, ho0, hb⟩; refine ⟨_, rfl, ?_⟩; have n0_ := Aside0.mk (Kd.R_below (by (with_reducible repeat (fail)); exact HO239.out) hb); have n1_ := Aside0.mk (Kd.R_lower ho0 (below_size (by repeat ((with_reducible exact HB.out))))); have n2_ := Aside0.mk (blk_below (g := gb236) (o := .cells #[.int .i64 0, .slice none 0 0] 24 (0, 0)) (by (with_reducible repeat (fail)); exact BK236.out) hb); have n3_ := Aside0.mk (below_step (by repeat ((with_reducible exact HB.out))) hb); clear HO239; clear BK236; clear HB; have HO239 := n0_; have HO242 := n1_; have BK236 := n2_; have HB := n3_; clear n0_ n1_ n2_ n3_; (try clear hb); (try clear hb2); (try clear hk); (try clear hi); (try clear ho0); obtain ⟨Ao19, co19, eo19⟩ := Kd.R_slice HO242.out; subst eo19) | ((with_reducible refine gate_callee (f := 48) rfl ?_); refine goesL_ (some 23) rfl rfl Tryz.func48 (by kernel_rfl) rfl #[.slice Ao19 t240.length co19] rfl (by (try simp only [List.map_toArray, List.map_cons, List.map_nil]); rfl) ?_; (with_reducible refine (depotref03_head.calls k _ _ t240 true _ ?side1 ?side2 ?side3 A11.out).mono ?_); (case side1 => repeat (exact (Kd.R_reads' HO242.out).2.2)); (case side2 => exact (Kd.R_reads' HO242.out).2.1); (case side3 => exact Env.below HE.out (by repeat ((with_reducible exact HB.out)))); rintro e w20 ⟨rfl, hb⟩; refine ⟨_, rfl, ?_⟩; have n0_ := Aside0.mk (Kd.R_below (by (with_reducible repeat (fail)); exact HO239.out) hb); have n1_ := Aside0.mk (Kd.R_below (by (with_reducible repeat (fail)); exact HO242.out) hb); have n2_ := Aside0.mk (blk_below (g := gb236) (o := .cells #[.int .i64 0, .slice none 0 0] 24 (0, 0)) (by (with_reducible repeat (fail)); exact BK236.out) hb); have n3_ := Aside0.mk (below_step (by repeat ((with_reducible exact HB.out))) hb); clear HO239; clear HO242; clear BK236; clear HB; have HO239 := n0_; have HO242 := n1_; have BK236 := n2_; have HB := n3_; clear n0_ n1_ n2_ n3_; (try clear hb); (try clear hb2); (try clear hk); (try clear hi); have p245 : 0 ≤ (2 : Int) := (by omega); have q245 : 2 < (t240.length : Int) := of_decide_eq_true (by (with_reducible assumption)); obtain ⟨ad245, e245, hx245_0, hx245_1⟩ := at_T84 (Kd.R_reads' HO242.out).2.2 2 p245 q245; cases e245; (try simp only [show (2 : Int).toNat = 2 from rfl, Nat.reduceMul, Nat.reduceEqDiff, Go.Addr.add, ↓reduceIte] at hx245_0); (try simp only [show (2 : Int).toNat = 2 from rfl, Nat.reduceMul, Nat.reduceEqDiff, Go.Addr.add, ↓reduceIte] at hx245_1); have qi245 : (2 < t240.length) = True := eq_true (by omega); (try rw [show ((2 : Int)).toNat = 2 from rfl] at hx245_0); (try rw [show 2 * 2 = 4 from rfl] at hx245_0); (try rw [show ((2 : Int)).toNat = 2 from rfl] at hx245_1); (try rw [show 2 * 2 = 4 from rfl] at hx245_1); replace p245 := eq_true p245; replace q245 := eq_true q245) | ((with_reducible refine gate_callee (f := 49) rfl ?_); refine goesL_ (some 34) rfl rfl Tryz.func49 (by kernel_rfl) rfl #[.string ((rd_T84 t240 2).f0)] rfl (by (try simp only [List.map_toArray, List.map_cons, List.map_nil]); rfl) ?_; (with_reducible refine (depotref03_Value.calls ((rd_T84 t240 2).f0) t246 _ ?side1 A14.out).mono ?_); (case side1 => exact Env.below HE.out (by repeat ((with_reducible exact HB.out)))); rintro e w21 ⟨rfl, hb⟩; refine ⟨_, rfl, ?_⟩; have n0_ := Aside0.mk (Kd.R_below (by (with_reducible repeat (fail)); exact HO239.out) hb); have n1_ := Aside0.mk (Kd.R_below (by (with_reducible repeat (fail)); exact HO242.out) hb); have n2_ := Aside0.mk (blk_below (g := gb236) (o := .cells #[.int .i64 0, .slice none 0 0] 24 (0, 0)) (by (with_reducible repeat (fail)); exact BK236.out) hb); have n3_ := Aside0.mk (below_step (by repeat ((with_reducible exact HB.out))) hb); clear HO239; clear HO242; clear BK236; clear HB; have HO239 := n0_; have HO242 := n1_; have BK236 := n2_; have HB := n3_; clear n0_ n1_ n2_ n3_; (try clear hb); (try clear hb2); (try clear hk); (try clear hi)) | ((with_reducible refine gate_dst (N := 7) rfl ?_); refine box_event ?hg (N := 7) ?hd (cs := #[.int .i64 0, .slice none 0 0]) (t := 24) ?hr ?_; (case hd => rfl); (case hg => rfl); (case hr => ((go_simp; done))); intro gb247 hg w22 hbox hb; have n0_ := Aside0.mk (Kd.R_below (by (with_reducible repeat (fail)); exact HO239.out) hb); have n1_ := Aside0.mk (Kd.R_below (by (with_reducible repeat (fail)); exact HO242.out) hb); have n2_ := Aside0.mk (blk_below (g := gb236) (o := .cells #[.int .i64 0, .slice none 0 0] 24 (0, 0)) (by (with_reducible repeat (fail)); exact BK236.out) hb); have n3_ := Aside0.mk (below_step (by repeat ((with_reducible exact HB.out))) hb); have n4_ := Aside0.mk (hbox); have n5_ := Aside0.mk ((by rw [hg]; exact (below_size (by repeat ((with_reducible exact HB.out)))) : w.heap.size ≤ gb247)); have n6_ := Aside0.mk ((by rw [hg]; exact (below_size (by repeat ((with_reducible exact HB.out)))) : w.heap.size ≤ gb247)); have n7_ := Aside0.mk ((by rw [hg]; exact Nat.ne_of_lt (blk_lt (g := gb236) (o := .cells #[.int .i64 0, .slice none 0 0] 24 (0, 0)) (by (with_reducible repeat (fail)); exact BK236.out)) : gb236 ≠ gb247)); have n8_ := Aside0.mk ((by rw [hg]; exact Nat.ne_of_gt (blk_lt (g := gb236) (o := .cells #[.int .i64 0, .slice none 0 0] 24 (0, 0)) (by (with_reducible repeat (fail)); exact BK236.out)) : gb247 ≠ gb236)); clear HO239; clear HO242; clear BK236; clear HB; have HO239 := n0_; have HO242 := n1_; have BK236 := n2_; have HB := n3_; have BK247 := n4_; have GW247 := n5_; have GE247 := n6_; have NB236_247 := n7_; have NB247_236 := n8_; clear n0_ n1_ n2_ n3_ n4_ n5_ n6_ n7_ n8_; clear hb hbox hg; have hnb23 := NB247_236.out; have hnc23 := NB236_247.out; have hcz24_0 : w22.cell? ⟨gb247, 0, none⟩ = some (.int .i64 0) := (blk_cell BK247.out 0).trans rfl; have hcz24_1 : w22.cell? ⟨gb247, 1, none⟩ = some (.slice none 0 0) := (blk_cell BK247.out 1).trans rfl; have hfz24_0 := blk_frozen BK247.out 0; have hfz24_1 := blk_frozen BK247.out 1))
    go_loopg [8, 9] k (fun kq v8 v9 w' => ∃ (x8_1 : List Int) (x9_1 : Int) (x237000_1 : Int) (x248001_1 : List (List Int)) (u248001 : Value), v9 = .int .i64 x9_1 ∧ Aside0 (depotref03_Read.l0 kq t237 t240 x8_1 x9_1 t246 x248001_1 = some (r1, r2, r3, r4)) ∧ Aside0 (kq ≤ k) ∧ Aside0 (Kd.R Kd.string 9 w' w.heap.size (fun _ => True) (.slice Ao17 t237.length co17) t237) ∧ Aside0 (Kd.R k84 84 w' w.heap.size (fun _ => True) (.slice (some ad245) t240.length co19) t240) ∧ Aside0 (Kd.R (Kd.int .i64) 3 w' w.heap.size (fun _ => True) v8 x8_1) ∧ Aside0 (Kd.S (Kd.slice 3 (Kd.int .i64)) 43 w' w.heap.size (fun k_ => some k_ ≠ (v8 : Value).ownBlock) u248001 x248001_1) ∧ Aside0 (w'.heap[gb236]? = some (.cells #[.int .i64 x237000_1, (.slice none 0 0)] 24 (0, 0))) ∧ Aside0 (w'.heap[gb247]? = some (.cells #[.int .i64 t246, u248001] 24 (0, 0))) ∧ Aside0 (Below w.heap.size w w'))
    case atStart => exact ⟨(([] : List Int)), (4), (0), (([] : List (List Int))), (.slice none 0 0), (by rfl), H', ⟨Nat.le_refl _⟩, ⟨by (with_reducible repeat (fail)); exact Kd.R_mono (Kd.R_far (p := ⟨gb247, 1, none⟩) (Kd.R_far (p := ⟨gb247, 0, none⟩) (Kd.R_types HO239.out BK247.out (by decide)) (fun _ hk => hk.2) (.int .i64 t246)) (fun _ hk => hk.2) (.slice none 0 0)) (fun _ hk => trivial)⟩, ⟨by (with_reducible repeat (fail)); exact Kd.R_mono (Kd.R_far (p := ⟨gb247, 1, none⟩) (Kd.R_far (p := ⟨gb247, 0, none⟩) (Kd.R_types HO242.out BK247.out (by decide)) (fun _ hk => hk.2) (.int .i64 t246)) (fun _ hk => hk.2) (.slice none 0 0)) (fun _ hk => trivial)⟩, ⟨by exact Kd.R_nil _ _ _ _ _⟩, ⟨by exact Kd.S_nil _ _ _ _ _⟩, ⟨by (with_reducible repeat (fail)); refine blk_far ?_ NB236_247.out _; (with_reducible repeat (fail)); refine blk_far ?_ NB236_247.out _; (with_reducible repeat (fail)); exact BK236.out⟩, ⟨by (with_reducible repeat (fail)); refine blk_put (cs := #[.int .i64 t246, .slice none 0 0]) ?_ 1 _ rfl; (with_reducible repeat (fail)); refine blk_put (cs := #[.int .i64 0, .slice none 0 0]) ?_ 0 _ rfl; (with_reducible repeat (fail)); exact BK247.out⟩, ⟨by repeat ((with_reducible first | exact HB.out | refine below_set ?_ GE247.out))⟩⟩
    case round =>
     clear H'
     try clear c1
     try clear c2
     try clear p2
     try clear q2
     try clear hx2
     try clear qi2
     try clear c4
     try clear c4b0
     try clear c4b1
     try clear c4b2
     try clear p6
     try clear c12
     try clear c13
     try clear c13b0
     try clear c13b1
     try clear c23
     try clear p24
     try clear q24
     try clear hx24
     try clear qi24
     try clear hcz10_0
     try clear hcz10_1
     try clear hcz24_0
     try clear hcz24_1
     try clear hfz10_0
     try clear hfz10_1
     try clear hfz24_0
     try clear hfz24_1
     try clear hx245_0
     try clear hx245_1
     try clear p245
     try clear q245
     obtain ⟨x8_1, x9_1, x237000_1, x248001_1, u248001, rfl, HA, HK1, HO_5, HO_6, HO_8, HO_248001, BK236, BK247, HB⟩ := hrel
     cases gk with
     | zero => exact absurd HA.out (by simp [depotref03_Read.l0])
     | succ k1 =>
      have H := HA.out
      clear HA
      simp only [depotref03_Read.l0] at H
      by_cases c25 : x9_1 < (t240.length : Int)
      ·rw [if_pos c25] at H
       have c25b0 : decide (x9_1 < (t240.length : Int)) = true := decide_eq_true c25
       clear c25
       by_cases c26 : 0 ≤ x9_1
       ·rw [if_pos c26] at H
        have c26b0 : decide (0 ≤ x9_1) = true := decide_eq_true c26
        clear c26
        replace H := Option.bind_eq_some_iff.mp H
        obtain ⟨t249, A270, H⟩ := H
        replace H : (if t249 = true then ((depotref03_Value.f ((rd_T84 t240 x9_1).f0)).bind fun t252 => (if t252 > t246 then (depotref03_Read.j1 k1 t237 t240 x8_1 x9_1 t252 true t246 x248001_1) else (depotref03_Read.j1 k1 t237 t240 x8_1 x9_1 t252 (decide (t252 < (wrap64 (-t246)))) t246 x248001_1))) else (some (0, ([] : List (List Int)), 31, (rd_T84 t240 x9_1).f1))) = some (r1, r2, r3, r4) := H
        have A27 := Aside0.mk A270
        clear A270
        by_cases c28 : t249 = true
        ·subst c28
         have H1 : ((depotref03_Value.f ((rd_T84 t240 x9_1).f0)).bind fun t252 => (if t252 > t246 then (depotref03_Read.j1 k1 t237 t240 x8_1 x9_1 t252 true t246 x248001_1) else (depotref03_Read.j1 k1 t237 t240 x8_1 x9_1 t252 (decide (t252 < (wrap64 (-t246)))) t246 x248001_1))) = some (r1, r2, r3, r4) := by rw [if_pos rfl] at H; exact H
         clear H
         have H := H1
         clear H1
         replace H := Option.bind_eq_some_iff.mp H
         obtain ⟨t252, A290, H⟩ := H
         replace H : (if t252 > t246 then (depotref03_Read.j1 k1 t237 t240 x8_1 x9_1 t252 true t246 x248001_1) else (depotref03_Read.j1 k1 t237 t240 x8_1 x9_1 t252 (decide (t252 < (wrap64 (-t246)))) t246 x248001_1)) = some (r1, r2, r3, r4) := H
         have A29 := Aside0.mk A290
         clear A290
         have HC30 := Aside0.mk H
         clear H
         have p248 : 0 ≤ (x9_1 : Int) := of_decide_eq_true (by (with_reducible assumption))
         have q248 : x9_1 < (t240.length : Int) := of_decide_eq_true (by (with_reducible assumption))
         obtain ⟨ad248, e248, hx248_0, hx248_1⟩ := at_T84 (Kd.R_reads' HO_6.out).2.2 x9_1 p248 q248
         obtain rfl : ad245 = ad248 := (by injection e248)
         replace p248 := eq_true p248
         replace q248 := eq_true q248
         go_upto_region 15 with (first | ((with_reducible refine gate_callee (f := 50) rfl ?_); refine goesL_ (some 47) rfl rfl Tryz.func50 (by kernel_rfl) rfl #[.string ((rd_T84 t240 x9_1).f0)] rfl (by (try simp only [List.map_toArray, List.map_cons, List.map_nil]); rfl) ?_; (with_reducible refine (depotref03_Tens.calls k1 ((rd_T84 t240 x9_1).f0) true _ A27.out).mono ?_); rintro e w' ⟨rfl, ⟨nd, rfl⟩⟩; refine ⟨_, rfl, ?_⟩; have p251 : 0 ≤ (x9_1 : Int) := of_decide_eq_true (by (with_reducible assumption)); have q251 : x9_1 < (t240.length : Int) := of_decide_eq_true (by (with_reducible assumption)); obtain ⟨ad251, e251, hx251_0, hx251_1⟩ := at_T84 (Kd.R_reads' HO_6.out).2.2 x9_1 p251 q251; obtain rfl : ad245 = ad251 := (by injection e251); replace p251 := eq_true p251; replace q251 := eq_true q251) | ((with_reducible refine gate_callee (f := 49) rfl ?_); refine goesL_ (some 60) rfl rfl Tryz.func49 (by kernel_rfl) rfl #[.string ((rd_T84 t240 x9_1).f0)] rfl (by (try simp only [List.map_toArray, List.map_cons, List.map_nil]); rfl) ?_; (with_reducible refine (depotref03_Value.calls ((rd_T84 t240 x9_1).f0) t252 _ ?side1 A29.out).mono ?_); (case side1 => exact Env.below HE.out (by repeat ((with_reducible first | exact HB.out | apply pw_below_drewN)))); rintro e w31 ⟨rfl, hb⟩; refine ⟨_, rfl, ?_⟩; have n0_ := Aside0.mk (Kd.R_below (by (with_reducible repeat (apply Kd.R_drewN)); exact HO_5.out) hb); have n1_ := Aside0.mk (Kd.R_below (by (with_reducible repeat (apply Kd.R_drewN)); exact HO_6.out) hb); have n2_ := Aside0.mk (Kd.R_below (by (with_reducible repeat (apply Kd.R_drewN)); exact HO_8.out) hb); have n3_ := Aside0.mk (Kd.S_below (by (with_reducible repeat (apply Kd.S_drewN)); exact HO_248001.out) hb); have n4_ := Aside0.mk (blk_below (g := gb236) (o := .cells #[.int .i64 x237000_1, .slice none 0 0] 24 (0, 0)) (by (with_reducible repeat (refine blk_drewN ?_ _)); exact BK236.out) hb); have n5_ := Aside0.mk (blk_below (g := gb247) (o := .cells #[.int .i64 t246, u248001] 24 (0, 0)) (by (with_reducible repeat (refine blk_drewN ?_ _)); exact BK247.out) hb); have n6_ := Aside0.mk (below_step (by repeat ((with_reducible first | exact HB.out | apply pw_below_drewN))) hb); clear HO_5; clear HO_6; clear HO_8; clear HO_248001; clear BK236; clear BK247; clear HB; have HO_5 := n0_; have HO_6 := n1_; have HO_8 := n2_; have HO_248001 := n3_; have BK236 := n4_; have BK247 := n5_; have HB := n6_; clear n0_ n1_ n2_ n3_ n4_ n5_ n6_; (try clear hb); (try clear hb2); (try clear hk); (try clear hi)))
         (try simp only [Act.put, List.setIfInBounds_toArray, List.set_cons_zero, List.set_cons_succ])
         go_cut [71] (fun v71 wc => ∃ (kq : Nat) (x71_29 : Bool), v71 = .bool x71_29 ∧ Aside0 (depotref03_Read.j1 kq t237 t240 x8_1 x9_1 t252 x71_29 t246 x248001_1 = some (r1, r2, r3, r4)) ∧ Aside0 (kq ≤ k1) ∧ Aside0 (Kd.R Kd.string 9 wc w.heap.size (fun _ => True) (.slice Ao17 t237.length co17) t237) ∧ Aside0 (Kd.R k84 84 wc w.heap.size (fun _ => True) (.slice (some ad245) t240.length co19) t240) ∧ Aside0 (Kd.R (Kd.int .i64) 3 wc w.heap.size (fun _ => True) u8 x8_1) ∧ Aside0 (Kd.S (Kd.slice 3 (Kd.int .i64)) 43 wc w.heap.size (fun k_ => some k_ ≠ (u8 : Value).ownBlock) u248001 x248001_1) ∧ Aside0 (wc.heap[gb236]? = some (.cells #[.int .i64 x237000_1, (.slice none 0 0)] 24 (0, 0))) ∧ Aside0 (wc.heap[gb247]? = some (.cells #[.int .i64 t246, u248001] 24 (0, 0))) ∧ Aside0 (Below w.heap.size w wc))
         case first =>
          have H := HC30.out
          clear HC30
          by_cases c32 : t252 > t246
          ·rw [if_pos c32] at H
           have c32b0 : decide (t246 < t252) = true := decide_eq_true c32
           clear c32
           (skip)
           have H' := Aside0.mk H
           clear H
           have hnb33 := NB247_236.out
           have hnc33 := NB236_247.out
           have hcz34_0 : w31.cell? ⟨gb247, 0, none⟩ = some (.int .i64 t246) := (blk_cell BK247.out 0).trans rfl
           have hcz34_1 : w31.cell? ⟨gb247, 1, none⟩ = some (u248001) := (blk_cell BK247.out 1).trans rfl
           have hfz34_0 := blk_frozen BK247.out 0
           have hfz34_1 := blk_frozen BK247.out 1
           go_wp2
           go_meet
           case rel => exact ⟨_, (true), (by rfl), H', ⟨by have := HK1.out; omega⟩, ⟨by (with_reducible repeat (fail)); exact HO_5.out⟩, ⟨by (with_reducible repeat (fail)); exact HO_6.out⟩, ⟨by (with_reducible repeat (fail)); exact HO_8.out⟩, ⟨by (with_reducible repeat (fail)); exact HO_248001.out⟩, ⟨by (with_reducible repeat (fail)); exact BK236.out⟩, ⟨by (with_reducible repeat (fail)); exact BK247.out⟩, ⟨by repeat ((with_reducible exact HB.out))⟩⟩
          ·rw [if_neg c32] at H
           have c32b0 : decide (t246 < t252) = false := decide_eq_false c32
           clear c32
           (skip)
           have H' := Aside0.mk H
           clear H
           have hnb35 := NB247_236.out
           have hnc35 := NB236_247.out
           have hcz36_0 : w31.cell? ⟨gb247, 0, none⟩ = some (.int .i64 t246) := (blk_cell BK247.out 0).trans rfl
           have hcz36_1 : w31.cell? ⟨gb247, 1, none⟩ = some (u248001) := (blk_cell BK247.out 1).trans rfl
           have hfz36_0 := blk_frozen BK247.out 0
           have hfz36_1 := blk_frozen BK247.out 1
           go_wp2
           go_meet
           case rel => exact ⟨_, (decide (t252 < (wrap64 (-t246)))), (by rfl), H', ⟨by have := HK1.out; omega⟩, ⟨by (with_reducible repeat (fail)); exact HO_5.out⟩, ⟨by (with_reducible repeat (fail)); exact HO_6.out⟩, ⟨by (with_reducible repeat (fail)); exact HO_8.out⟩, ⟨by (with_reducible repeat (fail)); exact HO_248001.out⟩, ⟨by (with_reducible repeat (fail)); exact BK236.out⟩, ⟨by (with_reducible repeat (fail)); exact BK247.out⟩, ⟨by repeat ((with_reducible exact HB.out))⟩⟩
         case rest =>
          clear HC30
          try clear c1
          try clear c2
          try clear p2
          try clear q2
          try clear hx2
          try clear qi2
          try clear c3
          try clear c4
          try clear c4b0
          try clear c4b1
          try clear c4b2
          try clear c5
          try clear p6
          try clear c12
          try clear c13
          try clear c13b0
          try clear c13b1
          try clear c23
          try clear p24
          try clear q24
          try clear hx24
          try clear qi24
          try clear c25
          try clear c25b0
          try clear p25
          try clear q25
          try clear hx25
          try clear c26
          try clear c26b0
          try clear c28
          try clear c29
          try clear c32
          try clear c32b0
          try clear c33
          try clear c35
          try clear hcz10_0
          try clear hcz10_1
          try clear hcz24_0
          try clear hcz24_1
          try clear hcz34_0
          try clear hcz34_1
          try clear hcz36_0
          try clear hcz36_1
          try clear hfz10_0
          try clear hfz10_1
          try clear hfz24_0
          try clear hfz24_1
          try clear hfz34_0
          try clear hfz34_1
          try clear hfz36_0
          try clear hfz36_1
          try clear hx245_0
          try clear hx245_1
          try clear hx248_0
          try clear hx248_1
          try clear hx251_0
          try clear hx251_1
          try clear p2
          try clear p24
          try clear p245
          try clear p248
          try clear p251
          try clear p6
          try clear q2
          try clear q24
          try clear q245
          try clear q248
          try clear q251
          obtain ⟨kq, x71_29, rfl, HA, HJ29, HO_5, HO_6, HO_8, HO_248001, BK236, BK247, HB⟩ := hcut
          cases kq with
          | zero => exact absurd HA.out (by simp [depotref03_Read.j1])
          | succ kj29 =>
           have H := HA.out
           clear HA
           simp only [depotref03_Read.j1] at H
           by_cases c37 : x71_29 = true
           ·subst c37
            have H1 : (if 0 ≤ x9_1 then (if x9_1 < (t240.length : Int) then (some (0, ([] : List (List Int)), 32, (rd_T84 t240 x9_1).f1)) else (none)) else (none)) = some (r1, r2, r3, r4) := by rw [if_pos rfl] at H; exact H
            clear H
            have H := H1
            clear H1
            by_cases c38 : 0 ≤ x9_1
            ·rw [if_pos c38] at H
             have c38b0 : decide (0 ≤ x9_1) = true := decide_eq_true c38
             clear c38
             by_cases c39 : x9_1 < (t240.length : Int)
             ·rw [if_pos c39] at H
              have c39b0 : decide (x9_1 < (t240.length : Int)) = true := decide_eq_true c39
              clear c39
              simp only [Option.some.injEq, Prod.mk.injEq] at H
              obtain ⟨rfl, rfl, rfl, rfl⟩ := H
              try go_wp2
              have n0_ := Aside0.mk (Kd.R_drew HO_5.out)
              have n1_ := Aside0.mk (Kd.R_drew HO_6.out)
              have n2_ := Aside0.mk (Kd.R_drew HO_8.out)
              have n3_ := Aside0.mk (Kd.S_drew HO_248001.out)
              have n4_ := Aside0.mk (blk_drew BK236.out)
              have n5_ := Aside0.mk (blk_drew BK247.out)
              have n6_ := Aside0.mk (below_drew1 HB.out)
              clear HO_5
              clear HO_6
              clear HO_8
              clear HO_248001
              clear BK236
              clear BK247
              clear HB
              have HO_5 := n0_
              have HO_6 := n1_
              have HO_8 := n2_
              have HO_248001 := n3_
              have BK236 := n4_
              have BK247 := n5_
              have HB := n6_
              clear n0_ n1_ n2_ n3_ n4_ n5_ n6_
              have p253 : 0 ≤ (x9_1 : Int) := of_decide_eq_true (by (with_reducible assumption))
              have q253 : x9_1 < (t240.length : Int) := of_decide_eq_true (by (with_reducible assumption))
              obtain ⟨ad253, e253, hx253_0, hx253_1⟩ := at_T84 (Kd.R_reads' HO_6.out).2.2 x9_1 p253 q253
              obtain rfl : ad245 = ad253 := (by injection e253)
              replace p253 := eq_true p253
              replace q253 := eq_true q253
              refine start_ (n := 9) (S := fun w' => w'.cell? (ad245.add ((x9_1).toNat * 2)) = some (.string ((rd_T84 t240 x9_1).f0)) ∧ w'.cell? ⟨(ad245.add ((x9_1).toNat * 2)).block, (ad245.add ((x9_1).toNat * 2)).off + 1, none⟩ = some (.int .i64 ((rd_T84 t240 x9_1).f1))) (ds := []) #[false, false, false, false, false, false, false, false, false] (by kernel_rfl) rfl rfl ⟨hx253_0, hx253_1⟩ (fun hHeld => ?_); refine with_tabW depotref03_Read.tab16 depotref03_Read.bits16 (fun HT_ HW_ => ?_)
              generalize wc.drew = w40 at HO_5 HO_6 HO_8 HO_248001 BK236 BK247 HB hx253_0 hx253_1 hHeld ⊢
              refine pure_ (i := 0) (N := some 72) (v := ?_) (a' := ?_) #[true, false, false, false, false, false, false, false, false] rfl rfl (any_of HT_.out (by kernel_rfl)) (fun _ _ _ h => h) (Or.inl ⟨by rfl, ?_⟩) ?_ ?_
              rotate_left
              ·intro w'
               go_simp
               with_reducible rfl
              rotate_left
              ·simp only [Act.put, List.setIfInBounds_toArray, List.set_cons_zero, List.set_cons_succ, i64_w, i32_w]
               rfl
              refine pure_ (i := 1) (N := some 73) (v := ?_) (a' := ?_) #[true, true, false, false, false, false, false, false, false] rfl rfl (any_of HT_.out (by kernel_rfl)) (fun _ _ _ h => h) (Or.inl ⟨by rfl, ?_⟩) ?_ ?_
              rotate_left
              ·intro w'
               go_simp
               with_reducible rfl
              rotate_left
              ·simp only [Act.put, List.setIfInBounds_toArray, List.set_cons_zero, List.set_cons_succ, i64_w, i32_w]
               rfl
              refine pure_ (i := 2) (N := some 74) (v := ?_) (a' := ?_) #[true, true, true, false, false, false, false, false, false] rfl rfl (any_of HT_.out (by kernel_rfl)) (fun _ _ _ h => h) (Or.inl ⟨by rfl, ?_⟩) ?_ ?_
              rotate_left
              ·intro w'
               go_simp
               with_reducible rfl
              rotate_left
              ·simp only [Act.put, List.setIfInBounds_toArray, List.set_cons_zero, List.set_cons_succ, i64_w, i32_w]
               rfl
              refine pure_ (i := 3) (N := some 75) (v := ?_) (a' := ?_) #[true, true, true, true, false, false, false, false, false] rfl rfl (any_of HT_.out (by kernel_rfl)) (fun _ _ _ h => h) (Or.inl ⟨by rfl, ?_⟩) ?_ ?_
              rotate_left
              ·intro w'
               go_simp
               with_reducible rfl
              rotate_left
              ·simp only [Act.put, List.setIfInBounds_toArray, List.set_cons_zero, List.set_cons_succ, i64_w, i32_w]
               rfl
              refine pure_ (i := 4) (N := some 76) (v := ?_) (a' := ?_) #[true, true, true, true, true, false, false, false, false] rfl rfl (any_of HT_.out (by kernel_rfl)) (fun _ _ _ h => h) (Or.inl ⟨by rfl, ?_⟩) ?_ ?_
              rotate_left
              ·intro w'
               go_simp
               with_reducible rfl
              rotate_left
              ·simp only [Act.put, List.setIfInBounds_toArray, List.set_cons_zero, List.set_cons_succ, i64_w, i32_w]
               rfl
              refine take_ (i := 5) (N := some 77) (v := ?_) (a' := ?_) #[true, true, true, true, true, true, false, false, false] rfl rfl (take_ofW HT_.out HW_.out (by kernel_rfl)) (fun _ _ _ h => h) (Or.inl ⟨by rfl, ?_⟩) hHeld ?_ ?_
              rotate_left
              ·rintro w' ⟨s0, s1⟩
               go_simp
               with_reducible rfl
              rotate_left
              ·simp only [Act.put, List.setIfInBounds_toArray, List.set_cons_zero, List.set_cons_succ, i64_w, i32_w]
               rfl
              refine one_ (i := 6) (N := none) #[true, true, true, true, true, true, true, false, false] rfl rfl (one_of HT_.out (by kernel_rfl)) (by decide) (fun K hK => ?_)
              have hs41 : w40.cell? ⟨gb236, 0, none⟩ = some (.int .i64 x237000_1) := (blk_cell BK236.out 0).trans rfl
              have hfs41 := blk_frozen BK236.out 0
              have hns41_1 := NB247_236.out
              have hms41_1 := NB236_247.out
              have hs42 : w40.cell? ⟨gb236, 1, none⟩ = some (.slice none 0 0) := (blk_cell BK236.out 1).trans rfl
              have hfs42 := blk_frozen BK236.out 1
              have hns42_1 := NB247_236.out
              have hms42_1 := NB236_247.out
              refine skip_ (w1 := ?_) (by rfl) rfl ?_ ?_
              rotate_left
              ·go_simp
               rfl
              refine hK.out _ _ ⟨((cell_far (p := ⟨gb236, _, none⟩) (by ((rw [add_block]; exact Kd.own_blk (Kd.R_ne HO_6.out BK236.out (by decide))))) _).trans (((cell_far (p := ⟨gb236, _, none⟩) (by ((rw [add_block]; exact Kd.own_blk (Kd.R_ne HO_6.out BK236.out (by decide))))) _).trans (hHeld.1)))), ((cell_far (p := ⟨gb236, _, none⟩) (by ((rw [add_block]; exact Kd.own_blk (Kd.R_ne HO_6.out BK236.out (by decide))))) _).trans (((cell_far (p := ⟨gb236, _, none⟩) (by ((rw [add_block]; exact Kd.own_blk (Kd.R_ne HO_6.out BK236.out (by decide))))) _).trans (hHeld.2))))⟩ (fun hHeld => ?_)
              clear hK K
              refine pure_ (i := 7) (N := some 3) (v := ?_) (a' := ?_) #[true, true, true, true, true, true, true, true, false] rfl rfl (any_of HT_.out (by kernel_rfl)) (fun _ _ _ h => h) (Or.inl ⟨by rfl, ?_⟩) ?_ ?_
              rotate_left
              ·intro w'
               go_simp
               with_reducible rfl
              rotate_left
              ·simp only [Act.put, List.setIfInBounds_toArray, List.set_cons_zero, List.set_cons_succ, i64_w, i32_w]
               rfl
              refine pure_ (i := 8) (N := some 4) (v := ?_) (a' := ?_) #[true, true, true, true, true, true, true, true, true] rfl rfl (any_of HT_.out (by kernel_rfl)) (fun _ _ _ h => h) (Or.inl ⟨by rfl, ?_⟩) ?_ ?_
              rotate_left
              ·intro w'
               go_simp
               with_reducible rfl
              rotate_left
              ·simp only [Act.put, List.setIfInBounds_toArray, List.set_cons_zero, List.set_cons_succ, i64_w, i32_w]
               rfl
              refine done_ (done_of HT_.out (by kernel_rfl)) ?_
              try go_wp2
              refine bodyPost_ret (results_ctt rfl _ _ gb236 24 #[.int .i64 0, .slice none 0 0] (0, 0) _ rfl (by (with_reducible repeat (fail)); refine blk_put (cs := #[.int .i64 0, .slice none 0 0]) ?_ 1 _ rfl; (with_reducible repeat (fail)); refine blk_put (cs := #[.int .i64 x237000_1, .slice none 0 0]) ?_ 0 _ rfl; (with_reducible repeat (fail)); exact BK236.out) Tryz.underlying24 rfl (by kernel_rfl)) rfl ?_
              exact ⟨_, by rfl, by exact Kd.S_nil _ _ _ _ _, by repeat ((with_reducible first | exact HB.out | refine below_set ?_ GE236.out))⟩
             ·rw [if_neg c39] at H
              exact absurd H (by simp)
            ·rw [if_neg c38] at H
             exact absurd H (by simp)
           ·replace c37 := Bool.eq_false_iff.mpr c37
            subst c37
            have H1 : (if t252 = 0 then (if x248001_1.length < 5864062014805 then (depotref03_Read.l0 kj29 t237 t240 ([] : List Int) (wrap64 (x9_1 + 1)) t246 (x248001_1 ++ [x8_1])) else (none)) else (if x8_1.length < 17592186044416 then (depotref03_Read.l0 kj29 t237 t240 (x8_1 ++ [t252]) (wrap64 (x9_1 + 1)) t246 x248001_1) else (none))) = some (r1, r2, r3, r4) := by rw [if_neg (show ¬ (false = true) by decide)] at H; exact H
            clear H
            have H := H1
            clear H1
            by_cases c43 : t252 = 0
            ·rw [if_pos c43] at H
             have c43b0 : (t252 == 0) = true := beq_iff_eq.mpr c43
             have c43b1 : (t252 != 0) = false := bne_eq_false_iff_eq.mpr c43
             clear c43
             by_cases c44 : x248001_1.length < 5864062014805
             ·rw [if_pos c44] at H
              have LMc44 := Aside0.mk c44
              clear c44
              obtain ⟨y254, hy254⟩ : ∃ y_ : List (List Int), y_ = (x248001_1 ++ [x8_1]) := ⟨_, rfl⟩
              replace H : (depotref03_Read.l0 kj29 t237 t240 ([] : List Int) (wrap64 (x9_1 + 1)) t246 y254) = some (r1, r2, r3, r4) := by ((rw [hy254]; with_reducible exact H))
              have Ny254 := Aside0.mk hy254
              clear hy254
              have H' := Aside0.mk H
              clear H
              have hnb45 := NB247_236.out
              have hnc45 := NB236_247.out
              have hcz46_0 : wc.cell? ⟨gb247, 0, none⟩ = some (.int .i64 t246) := (blk_cell BK247.out 0).trans rfl
              have hcz46_1 : wc.cell? ⟨gb247, 1, none⟩ = some (u248001) := (blk_cell BK247.out 1).trans rfl
              have hfz46_0 := blk_frozen BK247.out 0
              have hfz46_1 := blk_frozen BK247.out 1
              obtain ⟨Ao48, co48, eo48⟩ := Kd.R_slice HO_8.out
              subst eo48
              go_wp2_with ((((with_reducible refine gate_builtin (b := .append) (xs := #[.tmp 81, .tmp 83]) rfl ?_); at_builtin; refine Kd.S_append (Kd.slice 3 (Kd.int .i64)) (w0 := w) w.heap.size rfl (.tmp 81) (.tmp 83) 22 43 (.slice none 0 0) 24 rfl Tryz.underlying22 info43 rfl (by decide) (by omega) u248001 x248001_1 x8_1 [.slice Ao48 x8_1.length co48] (fun _ => True) (fun k_ => some k_ = (.slice Ao48 x8_1.length co48 : Value).ownBlock) rfl rfl ?aP (fun k_ hk_ => ((Kd.R_mono (ok' := fun k_ => ((fun _ => True)) k_ ∧ some k_ ≠ (u248001 : Value).ownBlock) (Kd.R_apart' (HO_8.out) (Kd.S_typed HO_248001.out) (by decide)) (fun k_ hk => ⟨trivial, hk.2⟩))).1 k_ hk_.symm) ?aF ?aO ?aB ?aS ?aL ?_; (case aP => exact Kd.M_row (Kd.R_mono (Kd.R_tight rfl (Kd.R_mono (ok' := fun k_ => ((fun _ => True)) k_ ∧ some k_ ≠ (u248001 : Value).ownBlock) (Kd.R_apart' (HO_8.out) (Kd.S_typed HO_248001.out) (by decide)) (fun k_ hk => ⟨trivial, hk.2⟩))) (fun _ h_ => h_))); (case aB => exact (by repeat ((with_reducible exact HB.out)))); (case aF => exact (fun _ _ => trivial)); (case aO => exact (by (with_reducible repeat (fail)); exact Kd.S_mono HO_248001.out (fun k_ hk => ⟨trivial, fun e_ => hk e_⟩))); (case aS => exact (below_size (by repeat ((with_reducible exact HB.out))))); (case aL => have := LMc44.out; omega); intro v255 w47 ho hb hg hat; rw [← Ny254.out] at ho; have n0_ := Aside0.mk (Kd.R_over' (by (with_reducible repeat (fail)); exact HO_5.out) (Kd.S_typed (by (with_reducible repeat (fail)); exact HO_248001.out)) (by decide) hg); have n1_ := Aside0.mk (Kd.R_over' (by (with_reducible repeat (fail)); exact HO_6.out) (Kd.S_typed (by (with_reducible repeat (fail)); exact HO_248001.out)) (by decide) hg); have n2_ := Aside0.mk (blk_grown (g := gb236) (o := .cells #[.int .i64 x237000_1, .slice none 0 0] 24 (0, 0)) (by (with_reducible repeat (fail)); exact BK236.out) hg (Kd.S_ne HO_248001.out BK236.out (by decide))); have n3_ := Aside0.mk (blk_grown (g := gb247) (o := .cells #[.int .i64 t246, u248001] 24 (0, 0)) (by (with_reducible repeat (fail)); exact BK247.out) hg (Kd.S_ne HO_248001.out BK247.out (by decide))); have n4_ := Aside0.mk (hb); have n5_ := Aside0.mk (ho); clear HO_5; clear HO_6; clear BK236; clear BK247; clear HB; clear HO_248001; clear HO_8; have HO_5 := n0_; have HO_6 := n1_; have BK236 := n2_; have BK247 := n3_; have HB := n4_; have HO256 := n5_; clear n0_ n1_ n2_ n3_ n4_ n5_; clear ho hb hg hat; obtain ⟨Ao49, co49, eo49⟩ := Kd.S_slice HO256.out; subst eo49; have hcz50_0 : w47.cell? ⟨gb247, 0, none⟩ = some (.int .i64 t246) := (blk_cell BK247.out 0).trans rfl; have hcz50_1 : w47.cell? ⟨gb247, 1, none⟩ = some (u248001) := (blk_cell BK247.out 1).trans rfl; have hfz50_0 := blk_frozen BK247.out 0; have hfz50_1 := blk_frozen BK247.out 1)))
              go_roundg kj29
              case measure => have := HK1.out; have := HJ29.out; omega
              case rel => exact ⟨(([] : List Int)), (wrap64 (x9_1 + 1)), (x237000_1), (y254), (.slice Ao49 y254.length co49), (by rfl), H', ⟨by have := HK1.out; have := HJ29.out; omega⟩, ⟨by (with_reducible repeat (fail)); exact Kd.R_mono (Kd.R_far (p := ⟨gb247, 1, none⟩) (Kd.R_types HO_5.out BK247.out (by decide)) (fun _ hk => hk.2) (.slice Ao49 y254.length co49)) (fun _ hk => trivial)⟩, ⟨by (with_reducible repeat (fail)); exact Kd.R_mono (Kd.R_far (p := ⟨gb247, 1, none⟩) (Kd.R_types HO_6.out BK247.out (by decide)) (fun _ hk => hk.2) (.slice Ao49 y254.length co49)) (fun _ hk => trivial)⟩, ⟨by exact Kd.R_nil _ _ _ _ _⟩, ⟨by (with_reducible repeat (fail)); exact Kd.S_mono (Kd.S_far (p := ⟨gb247, 1, none⟩) (Kd.S_types HO256.out BK247.out (by decide)) (fun _ hk => hk.2) (.slice Ao49 y254.length co49)) (fun _ hk => (by simp [Value.ownBlock]))⟩, ⟨by (with_reducible repeat (fail)); refine blk_far ?_ NB236_247.out _; (with_reducible repeat (fail)); exact BK236.out⟩, ⟨by (with_reducible repeat (fail)); refine blk_put (cs := #[.int .i64 t246, u248001]) ?_ 1 _ rfl; (with_reducible repeat (fail)); exact BK247.out⟩, ⟨by repeat ((with_reducible first | exact HB.out | refine below_set ?_ GE247.out))⟩⟩
             ·rw [if_neg c44] at H
              exact absurd H (by simp)
            ·rw [if_neg c43] at H
             have c43b0 : (t252 == 0) = false := beq_eq_false_iff_ne.mpr c43
             have c43b1 : (t252 != 0) = true := bne_iff_ne.mpr c43
             by_cases c51 : x8_1.length < 17592186044416
             ·rw [if_pos c51] at H
              have LMc51 := Aside0.mk c51
              clear c51
              obtain ⟨y257, hy257⟩ : ∃ y_ : List Int, y_ = (x8_1 ++ [t252]) := ⟨_, rfl⟩
              replace H : (depotref03_Read.l0 kj29 t237 t240 y257 (wrap64 (x9_1 + 1)) t246 x248001_1) = some (r1, r2, r3, r4) := by ((rw [hy257]; with_reducible exact H))
              have Ny257 := Aside0.mk hy257
              clear hy257
              have H' := Aside0.mk H
              clear H
              go_wp2_with ((((with_reducible refine gate_builtin (b := .append) (xs := #[.tmp 86, .tmp 88]) rfl ?_); at_builtin; refine Kd.R_append (Kd.int .i64) (w0 := w) w.heap.size rfl (.tmp 86) (.tmp 88) 43 3 (.int .i64 0) 8 rfl Tryz.underlying43 info3 rfl (by decide) (by omega) u8 x8_1 t252 [.int .i64 t252] (fun _ => True) (fun _ => False) rfl rfl ?aP (fun _ hk => hk.elim) ?aF ?aO ?aB ?aS ?aL ?_; (case aP => exact rfl); (case aB => exact (by repeat ((with_reducible exact HB.out)))); (case aF => exact (fun _ _ => trivial)); (case aO => exact (by (with_reducible repeat (fail)); exact HO_8.out)); (case aS => exact (below_size (by repeat ((with_reducible exact HB.out))))); (case aL => have := LMc51.out; omega); intro v258 w52 ho hb hg hat; rw [← Ny257.out] at ho; have n0_ := Aside0.mk (Kd.R_over' (by (with_reducible repeat (fail)); exact HO_5.out) (Kd.R_typed (by (with_reducible repeat (fail)); exact HO_8.out)) (by decide) hg); have n1_ := Aside0.mk (Kd.R_over' (by (with_reducible repeat (fail)); exact HO_6.out) (Kd.R_typed (by (with_reducible repeat (fail)); exact HO_8.out)) (by decide) hg); have n2_ := Aside0.mk (Kd.S_after (ok := (fun _ => True)) (by (with_reducible repeat (fail)); exact Kd.S_mono HO_248001.out (fun _ hk => ⟨trivial, hk⟩)) hg hat); have n3_ := Aside0.mk (blk_grown (g := gb236) (o := .cells #[.int .i64 x237000_1, .slice none 0 0] 24 (0, 0)) (by (with_reducible repeat (fail)); exact BK236.out) hg (Kd.R_ne HO_8.out BK236.out (by decide))); have n4_ := Aside0.mk (blk_grown (g := gb247) (o := .cells #[.int .i64 t246, u248001] 24 (0, 0)) (by (with_reducible repeat (fail)); exact BK247.out) hg (Kd.R_ne HO_8.out BK247.out (by decide))); have n5_ := Aside0.mk (hb); have n6_ := Aside0.mk (ho); clear HO_5; clear HO_6; clear HO_248001; clear BK236; clear BK247; clear HB; clear HO_8; have HO_5 := n0_; have HO_6 := n1_; have HO_248001 := n2_; have BK236 := n3_; have BK247 := n4_; have HB := n5_; have HO259 := n6_; clear n0_ n1_ n2_ n3_ n4_ n5_ n6_; clear ho hb hg hat)))
              go_roundg kj29
              case measure => have := HK1.out; have := HJ29.out; omega
              case rel => exact ⟨(y257), (wrap64 (x9_1 + 1)), (x237000_1), (x248001_1), (u248001), (by rfl), H', ⟨by have := HK1.out; have := HJ29.out; omega⟩, ⟨by (with_reducible repeat (fail)); exact HO_5.out⟩, ⟨by (with_reducible repeat (fail)); exact HO_6.out⟩, ⟨by (with_reducible repeat (fail)); exact HO259.out⟩, ⟨by (with_reducible repeat (fail)); exact Kd.S_mono HO_248001.out (fun _ hk => hk.2)⟩, ⟨by (with_reducible repeat (fail)); exact BK236.out⟩, ⟨by (with_reducible repeat (fail)); exact BK247.out⟩, ⟨by repeat ((with_reducible exact HB.out))⟩⟩
             ·rw [if_neg c51] at H
              exact absurd H (by simp)
        ·replace c28 := Bool.eq_false_iff.mpr c28
         subst c28
         have H1 : (some (0, ([] : List (List Int)), 31, (rd_T84 t240 x9_1).f1)) = some (r1, r2, r3, r4) := by rw [if_neg (show ¬ (false = true) by decide)] at H; exact H
         clear H
         have H := H1
         clear H1
         simp only [Option.some.injEq, Prod.mk.injEq] at H
         obtain ⟨rfl, rfl, rfl, rfl⟩ := H
         have p248 : 0 ≤ (x9_1 : Int) := of_decide_eq_true (by (with_reducible assumption))
         have q248 : x9_1 < (t240.length : Int) := of_decide_eq_true (by (with_reducible assumption))
         obtain ⟨ad248, e248, hx248_0, hx248_1⟩ := at_T84 (Kd.R_reads' HO_6.out).2.2 x9_1 p248 q248
         obtain rfl : ad245 = ad248 := (by injection e248)
         replace p248 := eq_true p248
         replace q248 := eq_true q248
         try go_wp2_with ((((with_reducible refine gate_callee (f := 50) rfl ?_); refine goesL_ (some 47) rfl rfl Tryz.func50 (by kernel_rfl) rfl #[.string ((rd_T84 t240 x9_1).f0)] rfl (by (try simp only [List.map_toArray, List.map_cons, List.map_nil]); rfl) ?_; (with_reducible refine (depotref03_Tens.calls k1 ((rd_T84 t240 x9_1).f0) false _ A27.out).mono ?_); rintro e w' ⟨rfl, ⟨nd, rfl⟩⟩; refine ⟨_, rfl, ?_⟩; (try (rw [drewN_self wr]; generalize hq_ : World.drewN wr _ = wr; have n0_ : Aside0 (Kd.S (Kd.slice 3 (Kd.int .i64)) 43 wr w.heap.size (fun k_ => some k_ ≠ (u8 : Value).ownBlock) u248001 x248001_1) := ⟨by rw [← hq_]; exact (by (with_reducible repeat (apply Kd.S_drewN)); exact HO_248001.out)⟩; have n1_ : Aside0 (Kd.R Kd.string 9 wr w.heap.size (fun _ => True) (.slice Ao17 t237.length co17) t237) := ⟨by rw [← hq_]; exact (by (with_reducible repeat (apply Kd.R_drewN)); exact HO_5.out)⟩; have n2_ : Aside0 (Kd.R k84 84 wr w.heap.size (fun _ => True) (.slice (some ad245) t240.length co19) t240) := ⟨by rw [← hq_]; exact (by (with_reducible repeat (apply Kd.R_drewN)); exact HO_6.out)⟩; have n3_ : Aside0 (Kd.R (Kd.int .i64) 3 wr w.heap.size (fun _ => True) u8 x8_1) := ⟨by rw [← hq_]; exact (by (with_reducible repeat (apply Kd.R_drewN)); exact HO_8.out)⟩; have n4_ : Aside0 (wr.heap[gb236]? = some (.cells #[.int .i64 x237000_1, .slice none 0 0] 24 (0, 0))) := ⟨by rw [← hq_]; exact (by (with_reducible repeat (refine blk_drewN ?_ _)); exact BK236.out)⟩; have n5_ : Aside0 (wr.heap[gb247]? = some (.cells #[.int .i64 t246, u248001] 24 (0, 0))) := ⟨by rw [← hq_]; exact (by (with_reducible repeat (refine blk_drewN ?_ _)); exact BK247.out)⟩; have n6_ : Aside0 (Below w.heap.size w wr) := ⟨by rw [← hq_]; exact (by repeat ((with_reducible first | exact HB.out | apply pw_below_drewN)))⟩; clear HO_248001 HO_5 HO_6 HO_8 BK236 BK247 HB hq_; have HO_248001 := n0_; have HO_5 := n1_; have HO_6 := n2_; have HO_8 := n3_; have BK236 := n4_; have BK247 := n5_; have HB := n6_; clear n0_ n1_ n2_ n3_ n4_ n5_ n6_)))))
         have n0_ := Aside0.mk (Kd.R_drew HO_5.out)
         have n1_ := Aside0.mk (Kd.R_drew HO_6.out)
         have n2_ := Aside0.mk (Kd.R_drew HO_8.out)
         have n3_ := Aside0.mk (Kd.S_drew HO_248001.out)
         have n4_ := Aside0.mk (blk_drew BK236.out)
         have n5_ := Aside0.mk (blk_drew BK247.out)
         have n6_ := Aside0.mk (below_drew1 HB.out)
         clear HO_5
         clear HO_6
         clear HO_8
         clear HO_248001
         clear BK236
         clear BK247
         clear HB
         have HO_5 := n0_
         have HO_6 := n1_
         have HO_8 := n2_
         have HO_248001 := n3_
         have BK236 := n4_
         have BK247 := n5_
         have HB := n6_
         clear n0_ n1_ n2_ n3_ n4_ n5_ n6_
         have p250 : 0 ≤ (x9_1 : Int) := of_decide_eq_true (by (with_reducible assumption))
         have q250 : x9_1 < (t240.length : Int) := of_decide_eq_true (by (with_reducible assumption))
         obtain ⟨ad250, e250, hx250_0, hx250_1⟩ := at_T84 (Kd.R_reads' HO_6.out).2.2 x9_1 p250 q250
         obtain rfl : ad245 = ad250 := (by injection e250)
         replace p250 := eq_true p250
         replace q250 := eq_true q250
         refine start_ (n := 9) (S := fun w' => w'.cell? (ad245.add ((x9_1).toNat * 2)) = some (.string ((rd_T84 t240 x9_1).f0)) ∧ w'.cell? ⟨(ad245.add ((x9_1).toNat * 2)).block, (ad245.add ((x9_1).toNat * 2)).off + 1, none⟩ = some (.int .i64 ((rd_T84 t240 x9_1).f1))) (ds := []) #[false, false, false, false, false, false, false, false, false] (by kernel_rfl) rfl rfl ⟨hx250_0, hx250_1⟩ (fun hHeld => ?_); refine with_tabW depotref03_Read.tab13 depotref03_Read.bits13 (fun HT_ HW_ => ?_)
         generalize wr.drew = w53 at HO_5 HO_6 HO_8 HO_248001 BK236 BK247 HB hx250_0 hx250_1 hHeld ⊢
         refine pure_ (i := 0) (N := some 49) (v := ?_) (a' := ?_) #[true, false, false, false, false, false, false, false, false] rfl rfl (any_of HT_.out (by kernel_rfl)) (fun _ _ _ h => h) (Or.inl ⟨by rfl, ?_⟩) ?_ ?_
         rotate_left
         ·intro w'
          go_simp
          with_reducible rfl
         rotate_left
         ·simp only [Act.put, List.setIfInBounds_toArray, List.set_cons_zero, List.set_cons_succ, i64_w, i32_w]
          rfl
         refine pure_ (i := 1) (N := some 50) (v := ?_) (a' := ?_) #[true, true, false, false, false, false, false, false, false] rfl rfl (any_of HT_.out (by kernel_rfl)) (fun _ _ _ h => h) (Or.inl ⟨by rfl, ?_⟩) ?_ ?_
         rotate_left
         ·intro w'
          go_simp
          with_reducible rfl
         rotate_left
         ·simp only [Act.put, List.setIfInBounds_toArray, List.set_cons_zero, List.set_cons_succ, i64_w, i32_w]
          rfl
         refine pure_ (i := 2) (N := some 51) (v := ?_) (a' := ?_) #[true, true, true, false, false, false, false, false, false] rfl rfl (any_of HT_.out (by kernel_rfl)) (fun _ _ _ h => h) (Or.inl ⟨by rfl, ?_⟩) ?_ ?_
         rotate_left
         ·intro w'
          go_simp
          with_reducible rfl
         rotate_left
         ·simp only [Act.put, List.setIfInBounds_toArray, List.set_cons_zero, List.set_cons_succ, i64_w, i32_w]
          rfl
         refine pure_ (i := 3) (N := some 52) (v := ?_) (a' := ?_) #[true, true, true, true, false, false, false, false, false] rfl rfl (any_of HT_.out (by kernel_rfl)) (fun _ _ _ h => h) (Or.inl ⟨by rfl, ?_⟩) ?_ ?_
         rotate_left
         ·intro w'
          go_simp
          with_reducible rfl
         rotate_left
         ·simp only [Act.put, List.setIfInBounds_toArray, List.set_cons_zero, List.set_cons_succ, i64_w, i32_w]
          rfl
         refine pure_ (i := 4) (N := some 53) (v := ?_) (a' := ?_) #[true, true, true, true, true, false, false, false, false] rfl rfl (any_of HT_.out (by kernel_rfl)) (fun _ _ _ h => h) (Or.inl ⟨by rfl, ?_⟩) ?_ ?_
         rotate_left
         ·intro w'
          go_simp
          with_reducible rfl
         rotate_left
         ·simp only [Act.put, List.setIfInBounds_toArray, List.set_cons_zero, List.set_cons_succ, i64_w, i32_w]
          rfl
         refine take_ (i := 5) (N := some 54) (v := ?_) (a' := ?_) #[true, true, true, true, true, true, false, false, false] rfl rfl (take_ofW HT_.out HW_.out (by kernel_rfl)) (fun _ _ _ h => h) (Or.inl ⟨by rfl, ?_⟩) hHeld ?_ ?_
         rotate_left
         ·rintro w' ⟨s0, s1⟩
          go_simp
          with_reducible rfl
         rotate_left
         ·simp only [Act.put, List.setIfInBounds_toArray, List.set_cons_zero, List.set_cons_succ, i64_w, i32_w]
          rfl
         refine one_ (i := 6) (N := none) #[true, true, true, true, true, true, true, false, false] rfl rfl (one_of HT_.out (by kernel_rfl)) (by decide) (fun K hK => ?_)
         have hs54 : w53.cell? ⟨gb236, 0, none⟩ = some (.int .i64 x237000_1) := (blk_cell BK236.out 0).trans rfl
         have hfs54 := blk_frozen BK236.out 0
         have hns54_1 := NB247_236.out
         have hms54_1 := NB236_247.out
         have hs55 : w53.cell? ⟨gb236, 1, none⟩ = some (.slice none 0 0) := (blk_cell BK236.out 1).trans rfl
         have hfs55 := blk_frozen BK236.out 1
         have hns55_1 := NB247_236.out
         have hms55_1 := NB236_247.out
         refine skip_ (w1 := ?_) (by rfl) rfl ?_ ?_
         rotate_left
         ·go_simp
          rfl
         refine hK.out _ _ ⟨((cell_far (p := ⟨gb236, _, none⟩) (by ((rw [add_block]; exact Kd.own_blk (Kd.R_ne HO_6.out BK236.out (by decide))))) _).trans (((cell_far (p := ⟨gb236, _, none⟩) (by ((rw [add_block]; exact Kd.own_blk (Kd.R_ne HO_6.out BK236.out (by decide))))) _).trans (hHeld.1)))), ((cell_far (p := ⟨gb236, _, none⟩) (by ((rw [add_block]; exact Kd.own_blk (Kd.R_ne HO_6.out BK236.out (by decide))))) _).trans (((cell_far (p := ⟨gb236, _, none⟩) (by ((rw [add_block]; exact Kd.own_blk (Kd.R_ne HO_6.out BK236.out (by decide))))) _).trans (hHeld.2))))⟩ (fun hHeld => ?_)
         clear hK K
         refine pure_ (i := 7) (N := some 3) (v := ?_) (a' := ?_) #[true, true, true, true, true, true, true, true, false] rfl rfl (any_of HT_.out (by kernel_rfl)) (fun _ _ _ h => h) (Or.inl ⟨by rfl, ?_⟩) ?_ ?_
         rotate_left
         ·intro w'
          go_simp
          with_reducible rfl
         rotate_left
         ·simp only [Act.put, List.setIfInBounds_toArray, List.set_cons_zero, List.set_cons_succ, i64_w, i32_w]
          rfl
         refine pure_ (i := 8) (N := some 4) (v := ?_) (a' := ?_) #[true, true, true, true, true, true, true, true, true] rfl rfl (any_of HT_.out (by kernel_rfl)) (fun _ _ _ h => h) (Or.inl ⟨by rfl, ?_⟩) ?_ ?_
         rotate_left
         ·intro w'
          go_simp
          with_reducible rfl
         rotate_left
         ·simp only [Act.put, List.setIfInBounds_toArray, List.set_cons_zero, List.set_cons_succ, i64_w, i32_w]
          rfl
         refine done_ (done_of HT_.out (by kernel_rfl)) ?_
         try go_wp2
         refine bodyPost_ret (results_ctt rfl _ _ gb236 24 #[.int .i64 0, .slice none 0 0] (0, 0) _ rfl (by (with_reducible repeat (fail)); refine blk_put (cs := #[.int .i64 0, .slice none 0 0]) ?_ 1 _ rfl; (with_reducible repeat (fail)); refine blk_put (cs := #[.int .i64 x237000_1, .slice none 0 0]) ?_ 0 _ rfl; (with_reducible repeat (fail)); exact BK236.out) Tryz.underlying24 rfl (by kernel_rfl)) rfl ?_
         exact ⟨_, by rfl, by exact Kd.S_nil _ _ _ _ _, by repeat ((with_reducible first | exact HB.out | refine below_set ?_ GE236.out))⟩
       ·rw [if_neg c26] at H
        exact absurd H (by simp)
      ·rw [if_neg c25] at H
       have c25b0 : decide (x9_1 < (t240.length : Int)) = false := decide_eq_false c25
       clear c25
       by_cases c56 : (x8_1.length : Int) > 0
       ·rw [if_pos c56] at H
        have c56b0 : decide (0 < (x8_1.length : Int)) = true := decide_eq_true c56
        have c56b1 : decide (0 < x8_1.length) = true := decide_eq_true (by omega)
        clear c56
        simp only [Option.some.injEq, Prod.mk.injEq] at H
        obtain ⟨rfl, rfl, rfl, rfl⟩ := H
        obtain ⟨Ao57, co57, eo57⟩ := Kd.R_slice HO_8.out
        subst eo57
        have hnb58 := NB236_247.out
        have hnc58 := NB247_236.out
        have hcz59_0 : wr.cell? ⟨gb236, 0, none⟩ = some (.int .i64 x237000_1) := (blk_cell BK236.out 0).trans rfl
        have hcz59_1 : wr.cell? ⟨gb236, 1, none⟩ = some (.slice none 0 0) := (blk_cell BK236.out 1).trans rfl
        have hfz59_0 := blk_frozen BK236.out 0
        have hfz59_1 := blk_frozen BK236.out 1
        go_wp2
        refine bodyPost_ret (results_ctt rfl _ _ gb236 24 #[.int .i64 0, .slice none 0 0] (0, 0) _ rfl (by (with_reducible repeat (fail)); refine blk_put (cs := #[.int .i64 0, .slice none 0 0]) ?_ 1 _ rfl; (with_reducible repeat (fail)); refine blk_put (cs := #[.int .i64 x237000_1, .slice none 0 0]) ?_ 0 _ rfl; (with_reducible repeat (fail)); exact BK236.out) Tryz.underlying24 rfl (by kernel_rfl)) rfl ?_
        exact ⟨_, by rfl, by exact Kd.S_nil _ _ _ _ _, by repeat ((with_reducible first | exact HB.out | refine below_set ?_ GE236.out))⟩
       ·rw [if_neg c56] at H
        have c56b0 : decide (0 < (x8_1.length : Int)) = false := decide_eq_false c56
        have c56b1 : decide (0 < x8_1.length) = false := decide_eq_false (by omega)
        clear c56
        by_cases c60 : 3 < (t240.length : Int)
        ·rw [if_pos c60] at H
         have c60b0 : decide (3 < (t240.length : Int)) = true := decide_eq_true c60
         have c60b1 : decide (3 < t240.length) = true := decide_eq_true (by omega)
         clear c60
         replace H := Option.bind_eq_some_iff.mp H
         obtain ⟨t261, A610, H⟩ := H
         replace H : (if (x248001_1.length : Int) = t261 then (some (t246, x248001_1, 0, 0)) else (some (0, ([] : List (List Int)), 34, wrap64 ((t237.length : Int) + 1)))) = some (r1, r2, r3, r4) := H
         have A61 := Aside0.mk A610
         clear A610
         by_cases c62 : (x248001_1.length : Int) = t261
         ·rw [if_pos c62] at H
          have c62b0 : ((x248001_1.length : Int) == t261) = true := beq_iff_eq.mpr c62
          have c62b1 : ((x248001_1.length : Int) != t261) = false := bne_eq_false_iff_eq.mpr c62
          clear c62
          simp only [Option.some.injEq, Prod.mk.injEq] at H
          obtain ⟨rfl, rfl, rfl, rfl⟩ := H
          obtain ⟨Ao63, co63, eo63⟩ := Kd.R_slice HO_8.out
          subst eo63
          try go_wp2
          have n0_ := Aside0.mk (Kd.R_drew HO_5.out)
          have n1_ := Aside0.mk (Kd.R_drew HO_6.out)
          have n2_ := Aside0.mk (Kd.R_drew HO_8.out)
          have n3_ := Aside0.mk (Kd.S_drew HO_248001.out)
          have n4_ := Aside0.mk (blk_drew BK236.out)
          have n5_ := Aside0.mk (blk_drew BK247.out)
          have n6_ := Aside0.mk (below_drew1 HB.out)
          clear HO_5
          clear HO_6
          clear HO_8
          clear HO_248001
          clear BK236
          clear BK247
          clear HB
          have HO_5 := n0_
          have HO_6 := n1_
          have HO_8 := n2_
          have HO_248001 := n3_
          have BK236 := n4_
          have BK247 := n5_
          have HB := n6_
          clear n0_ n1_ n2_ n3_ n4_ n5_ n6_
          obtain ⟨Ao65, co65, eo65⟩ := Kd.S_slice HO_248001.out
          (subst eo65)
          have p260 : 0 ≤ (3 : Int) := (by omega)
          have q260 : 3 < (t240.length : Int) := of_decide_eq_true (by (with_reducible assumption))
          obtain ⟨ad260, e260, hx260_0, hx260_1⟩ := at_T84 (Kd.R_reads' HO_6.out).2.2 3 p260 q260
          obtain rfl : ad245 = ad260 := (by injection e260)
          (try simp only [show (3 : Int).toNat = 3 from rfl, Nat.reduceMul, Nat.reduceEqDiff, Go.Addr.add, ↓reduceIte] at hx260_0)
          (try simp only [show (3 : Int).toNat = 3 from rfl, Nat.reduceMul, Nat.reduceEqDiff, Go.Addr.add, ↓reduceIte] at hx260_1)
          have qi260 : (3 < t240.length) = True := eq_true (by omega)
          (try rw [show ((3 : Int)).toNat = 3 from rfl] at hx260_0)
          (try rw [show 3 * 2 = 6 from rfl] at hx260_0)
          (try rw [show ((3 : Int)).toNat = 3 from rfl] at hx260_1)
          (try rw [show 3 * 2 = 6 from rfl] at hx260_1)
          replace p260 := eq_true p260
          replace q260 := eq_true q260
          refine start_ (n := 9) (S := fun w' => w'.cell? ⟨gb247, 0, none⟩ = some (.int .i64 t246) ∧ w'.cell? ⟨gb247, 1, none⟩ = some (.slice Ao65 x248001_1.length co65) ∧ w'.cell? ⟨ad245.block, ad245.off + 6, none⟩ = some (.string ((rd_T84 t240 3).f0)) ∧ w'.cell? ⟨ad245.block, ad245.off + 6 + 1, none⟩ = some (.int .i64 ((rd_T84 t240 3).f1))) (ds := []) #[false, false, false, false, false, false, false, false, false] (by kernel_rfl) rfl rfl ⟨(blk_cell BK247.out 0).trans rfl, (blk_cell BK247.out 1).trans rfl, hx260_0, hx260_1⟩ (fun hHeld => ?_); refine with_tabW depotref03_Read.tab23 depotref03_Read.bits23 (fun HT_ HW_ => ?_)
          generalize wr.drew = w64 at HO_5 HO_6 HO_8 HO_248001 BK236 BK247 HB hx260_0 hx260_1 hHeld ⊢
          refine pure_ (i := 0) (N := some 97) (v := ?_) (a' := ?_) #[true, false, false, false, false, false, false, false, false] rfl rfl (any_of HT_.out (by kernel_rfl)) (fun _ _ _ h => h) (Or.inl ⟨by rfl, ?_⟩) ?_ ?_
          rotate_left
          ·intro w'
           go_simp
           with_reducible rfl
          rotate_left
          ·simp only [Act.put, List.setIfInBounds_toArray, List.set_cons_zero, List.set_cons_succ, i64_w, i32_w]
           rfl
          refine pure_ (i := 3) (N := some 100) (v := ?_) (a' := ?_) #[true, false, false, true, false, false, false, false, false] rfl rfl (any_of HT_.out (by kernel_rfl)) (fun _ _ _ h => h) (Or.inl ⟨by rfl, ?_⟩) ?_ ?_
          rotate_left
          ·intro w'
           go_simp
           with_reducible rfl
          rotate_left
          ·simp only [Act.put, List.setIfInBounds_toArray, List.set_cons_zero, List.set_cons_succ, i64_w, i32_w]
           rfl
          refine pure_ (i := 4) (N := some 101) (v := ?_) (a' := ?_) #[true, false, false, true, true, false, false, false, false] rfl rfl (any_of HT_.out (by kernel_rfl)) (fun _ _ _ h => h) (Or.inl ⟨by rfl, ?_⟩) ?_ ?_
          rotate_left
          ·intro w'
           go_simp
           with_reducible rfl
          rotate_left
          ·simp only [Act.put, List.setIfInBounds_toArray, List.set_cons_zero, List.set_cons_succ, i64_w, i32_w]
           rfl
          refine pure_ (i := 5) (N := some 102) (v := ?_) (a' := ?_) #[true, false, false, true, true, true, false, false, false] rfl rfl (any_of HT_.out (by kernel_rfl)) (fun _ _ _ h => h) (Or.inl ⟨by rfl, ?_⟩) ?_ ?_
          rotate_left
          ·intro w'
           go_simp
           with_reducible rfl
          rotate_left
          ·simp only [Act.put, List.setIfInBounds_toArray, List.set_cons_zero, List.set_cons_succ, i64_w, i32_w]
           rfl
          refine take_ (i := 1) (N := some 98) (v := ?_) (a' := ?_) #[true, true, false, true, true, true, false, false, false] rfl rfl (take_ofW HT_.out HW_.out (by kernel_rfl)) (fun _ _ _ h => h) (Or.inl ⟨by rfl, ?_⟩) hHeld ?_ ?_
          rotate_left
          ·rintro w' ⟨s0, s1, s2, s3⟩
           go_simp
           with_reducible rfl
          rotate_left
          ·simp only [Act.put, List.setIfInBounds_toArray, List.set_cons_zero, List.set_cons_succ, i64_w, i32_w]
           rfl
          refine pure_ (i := 2) (N := some 99) (v := ?_) (a' := ?_) #[true, true, true, true, true, true, false, false, false] rfl rfl (any_of HT_.out (by kernel_rfl)) (fun _ _ _ h => h) (Or.inl ⟨by rfl, ?_⟩) ?_ ?_
          rotate_left
          ·intro w'
           go_simp
           with_reducible rfl
          rotate_left
          ·simp only [Act.put, List.setIfInBounds_toArray, List.set_cons_zero, List.set_cons_succ, i64_w, i32_w]
           rfl
          refine take_ (i := 6) (N := some 103) (v := ?_) (a' := ?_) #[true, true, true, true, true, true, true, false, false] rfl rfl (take_ofW HT_.out HW_.out (by kernel_rfl)) (fun _ _ _ h => h) (Or.inl ⟨by rfl, ?_⟩) hHeld ?_ ?_
          rotate_left
          ·rintro w' ⟨s0, s1, s2, s3⟩
           go_simp
           with_reducible rfl
          rotate_left
          ·simp only [Act.put, List.setIfInBounds_toArray, List.set_cons_zero, List.set_cons_succ, i64_w, i32_w]
           rfl
          refine one_ (i := 7) (N := some 104) #[true, true, true, true, true, true, true, true, false] rfl rfl (one_of HT_.out (by kernel_rfl)) (by decide) (fun K hK => ?_)
          refine goes_ Tryz.func49 (by kernel_rfl) rfl #[.string ((rd_T84 t240 3).f0)] (by rfl) rfl rfl (by (try simp only [List.map_toArray, List.map_cons, List.map_nil]); rfl) ?_
          with_reducible refine (depotref03_Value.calls ((rd_T84 t240 3).f0) t261 _ ?side1 A61.out).mono ?_
          (case side1 => exact Env.below HE.out (by repeat ((with_reducible exact HB.out))))
          rintro e w66 ⟨rfl, hb⟩
          have HS2_ := (hb.cell (World.block_lt_of_cell? _ _ (hHeld.2.2.1))).trans (hHeld.2.2.1)
          have HS3_ := (hb.cell (World.block_lt_of_cell? _ _ (hHeld.2.2.2))).trans (hHeld.2.2.2)
          refine ⟨_, rfl, ?_⟩
          have n0_ := Aside0.mk (Kd.R_below (by (with_reducible repeat (fail)); exact HO_5.out) hb)
          have n1_ := Aside0.mk (Kd.R_below (by (with_reducible repeat (fail)); exact HO_6.out) hb)
          have n2_ := Aside0.mk (Kd.R_below (by (with_reducible repeat (fail)); exact HO_8.out) hb)
          have n3_ := Aside0.mk (Kd.S_below (by (with_reducible repeat (fail)); exact HO_248001.out) hb)
          have n4_ := Aside0.mk (blk_below (g := gb236) (o := .cells #[.int .i64 x237000_1, .slice none 0 0] 24 (0, 0)) (by (with_reducible repeat (fail)); exact BK236.out) hb)
          have n5_ := Aside0.mk (blk_below (g := gb247) (o := .cells #[.int .i64 t246, .slice Ao65 x248001_1.length co65] 24 (0, 0)) (by (with_reducible repeat (fail)); exact BK247.out) hb)
          have n6_ := Aside0.mk (below_step (by repeat ((with_reducible exact HB.out))) hb)
          clear HO_5
          clear HO_6
          clear HO_8
          clear HO_248001
          clear BK236
          clear BK247
          clear HB
          have HO_5 := n0_
          have HO_6 := n1_
          have HO_8 := n2_
          have HO_248001 := n3_
          have BK236 := n4_
          have BK247 := n5_
          have HB := n6_
          clear n0_ n1_ n2_ n3_ n4_ n5_ n6_
          (try clear hb)
          (try clear hb2)
          (try clear hk)
          (try clear hi)
          refine hK.out _ _ ⟨(blk_cell BK247.out 0).trans rfl, (blk_cell BK247.out 1).trans rfl, HS2_, HS3_⟩ (fun hHeld => ?_)
          clear hK K
          refine norm_ (a' := ?_) ?_ ?_
          rotate_left
          ·show Act.put _ (some 104) _ = _
           simp only [Act.put, List.setIfInBounds_toArray, List.set_cons_zero, List.set_cons_succ, i64_w, i32_w]
           rfl
          refine pure_ (i := 8) (N := some 105) (v := ?_) (a' := ?_) #[true, true, true, true, true, true, true, true, true] rfl rfl (any_of HT_.out (by kernel_rfl)) (fun _ _ _ h => h) (Or.inl ⟨by rfl, ?_⟩) ?_ ?_
          rotate_left
          ·intro w'
           go_simp
           with_reducible rfl
          rotate_left
          ·simp only [Act.put, List.setIfInBounds_toArray, List.set_cons_zero, List.set_cons_succ, i64_w, i32_w]
           rfl
          refine done_ (done_of HT_.out (by kernel_rfl)) ?_
          have hnb67 := NB247_236.out
          have hnc67 := NB236_247.out
          have hcz68_0 : w66.cell? ⟨gb247, 0, none⟩ = some (.int .i64 t246) := (blk_cell BK247.out 0).trans rfl
          have hcz68_1 : w66.cell? ⟨gb247, 1, none⟩ = some (.slice Ao65 x248001_1.length co65) := (blk_cell BK247.out 1).trans rfl
          have hfz68_0 := blk_frozen BK247.out 0
          have hfz68_1 := blk_frozen BK247.out 1
          have hcz69_0 : w66.cell? ⟨gb236, 0, none⟩ = some (.int .i64 x237000_1) := (blk_cell BK236.out 0).trans rfl
          have hcz69_1 : w66.cell? ⟨gb236, 1, none⟩ = some (.slice none 0 0) := (blk_cell BK236.out 1).trans rfl
          have hfz69_0 := blk_frozen BK236.out 0
          have hfz69_1 := blk_frozen BK236.out 1
          try go_wp2
          refine bodyPost_ret (results_ctt rfl _ _ gb236 24 #[.int .i64 t246, .slice Ao65 x248001_1.length co65] (0, 0) _ rfl (by (with_reducible repeat (fail)); refine blk_put (cs := #[.int .i64 t246, .slice none 0 0]) ?_ 1 _ rfl; (with_reducible repeat (fail)); refine blk_put (cs := #[.int .i64 x237000_1, .slice none 0 0]) ?_ 0 _ rfl; (with_reducible repeat (fail)); exact BK236.out) Tryz.underlying24 rfl (by kernel_rfl)) rfl ?_
          exact ⟨_, by rfl, by (with_reducible repeat (fail)); exact Kd.S_mono (Kd.S_far (p := ⟨gb236, 1, none⟩) (Kd.S_far (p := ⟨gb236, 0, none⟩) (Kd.S_types HO_248001.out BK236.out (by decide)) (fun _ hk => hk.2) (.int .i64 t246)) (fun _ hk => hk.2) (.slice Ao65 x248001_1.length co65)) (fun _ hk => trivial), by repeat ((with_reducible first | exact HB.out | refine below_set ?_ GE236.out))⟩
         ·rw [if_neg c62] at H
          have c62b0 : ((x248001_1.length : Int) == t261) = false := beq_eq_false_iff_ne.mpr c62
          have c62b1 : ((x248001_1.length : Int) != t261) = true := bne_iff_ne.mpr c62
          simp only [Option.some.injEq, Prod.mk.injEq] at H
          obtain ⟨rfl, rfl, rfl, rfl⟩ := H
          obtain ⟨Ao70, co70, eo70⟩ := Kd.R_slice HO_8.out
          subst eo70
          try go_wp2
          have n0_ := Aside0.mk (Kd.R_drew HO_5.out)
          have n1_ := Aside0.mk (Kd.R_drew HO_6.out)
          have n2_ := Aside0.mk (Kd.R_drew HO_8.out)
          have n3_ := Aside0.mk (Kd.S_drew HO_248001.out)
          have n4_ := Aside0.mk (blk_drew BK236.out)
          have n5_ := Aside0.mk (blk_drew BK247.out)
          have n6_ := Aside0.mk (below_drew1 HB.out)
          clear HO_5
          clear HO_6
          clear HO_8
          clear HO_248001
          clear BK236
          clear BK247
          clear HB
          have HO_5 := n0_
          have HO_6 := n1_
          have HO_8 := n2_
          have HO_248001 := n3_
          have BK236 := n4_
          have BK247 := n5_
          have HB := n6_
          clear n0_ n1_ n2_ n3_ n4_ n5_ n6_
          obtain ⟨Ao72, co72, eo72⟩ := Kd.S_slice HO_248001.out
          (subst eo72)
          have p260 : 0 ≤ (3 : Int) := (by omega)
          have q260 : 3 < (t240.length : Int) := of_decide_eq_true (by (with_reducible assumption))
          obtain ⟨ad260, e260, hx260_0, hx260_1⟩ := at_T84 (Kd.R_reads' HO_6.out).2.2 3 p260 q260
          obtain rfl : ad245 = ad260 := (by injection e260)
          (try simp only [show (3 : Int).toNat = 3 from rfl, Nat.reduceMul, Nat.reduceEqDiff, Go.Addr.add, ↓reduceIte] at hx260_0)
          (try simp only [show (3 : Int).toNat = 3 from rfl, Nat.reduceMul, Nat.reduceEqDiff, Go.Addr.add, ↓reduceIte] at hx260_1)
          have qi260 : (3 < t240.length) = True := eq_true (by omega)
          (try rw [show ((3 : Int)).toNat = 3 from rfl] at hx260_0)
          (try rw [show 3 * 2 = 6 from rfl] at hx260_0)
          (try rw [show ((3 : Int)).toNat = 3 from rfl] at hx260_1)
          (try rw [show 3 * 2 = 6 from rfl] at hx260_1)
          replace p260 := eq_true p260
          replace q260 := eq_true q260
          refine start_ (n := 9) (S := fun w' => w'.cell? ⟨gb247, 0, none⟩ = some (.int .i64 t246) ∧ w'.cell? ⟨gb247, 1, none⟩ = some (.slice Ao72 x248001_1.length co72) ∧ w'.cell? ⟨ad245.block, ad245.off + 6, none⟩ = some (.string ((rd_T84 t240 3).f0)) ∧ w'.cell? ⟨ad245.block, ad245.off + 6 + 1, none⟩ = some (.int .i64 ((rd_T84 t240 3).f1))) (ds := []) #[false, false, false, false, false, false, false, false, false] (by kernel_rfl) rfl rfl ⟨(blk_cell BK247.out 0).trans rfl, (blk_cell BK247.out 1).trans rfl, hx260_0, hx260_1⟩ (fun hHeld => ?_); refine with_tabW depotref03_Read.tab23 depotref03_Read.bits23 (fun HT_ HW_ => ?_)
          generalize wr.drew = w71 at HO_5 HO_6 HO_8 HO_248001 BK236 BK247 HB hx260_0 hx260_1 hHeld ⊢
          refine pure_ (i := 0) (N := some 97) (v := ?_) (a' := ?_) #[true, false, false, false, false, false, false, false, false] rfl rfl (any_of HT_.out (by kernel_rfl)) (fun _ _ _ h => h) (Or.inl ⟨by rfl, ?_⟩) ?_ ?_
          rotate_left
          ·intro w'
           go_simp
           with_reducible rfl
          rotate_left
          ·simp only [Act.put, List.setIfInBounds_toArray, List.set_cons_zero, List.set_cons_succ, i64_w, i32_w]
           rfl
          refine pure_ (i := 3) (N := some 100) (v := ?_) (a' := ?_) #[true, false, false, true, false, false, false, false, false] rfl rfl (any_of HT_.out (by kernel_rfl)) (fun _ _ _ h => h) (Or.inl ⟨by rfl, ?_⟩) ?_ ?_
          rotate_left
          ·intro w'
           go_simp
           with_reducible rfl
          rotate_left
          ·simp only [Act.put, List.setIfInBounds_toArray, List.set_cons_zero, List.set_cons_succ, i64_w, i32_w]
           rfl
          refine pure_ (i := 4) (N := some 101) (v := ?_) (a' := ?_) #[true, false, false, true, true, false, false, false, false] rfl rfl (any_of HT_.out (by kernel_rfl)) (fun _ _ _ h => h) (Or.inl ⟨by rfl, ?_⟩) ?_ ?_
          rotate_left
          ·intro w'
           go_simp
           with_reducible rfl
          rotate_left
          ·simp only [Act.put, List.setIfInBounds_toArray, List.set_cons_zero, List.set_cons_succ, i64_w, i32_w]
           rfl
          refine pure_ (i := 5) (N := some 102) (v := ?_) (a' := ?_) #[true, false, false, true, true, true, false, false, false] rfl rfl (any_of HT_.out (by kernel_rfl)) (fun _ _ _ h => h) (Or.inl ⟨by rfl, ?_⟩) ?_ ?_
          rotate_left
          ·intro w'
           go_simp
           with_reducible rfl
          rotate_left
          ·simp only [Act.put, List.setIfInBounds_toArray, List.set_cons_zero, List.set_cons_succ, i64_w, i32_w]
           rfl
          refine take_ (i := 1) (N := some 98) (v := ?_) (a' := ?_) #[true, true, false, true, true, true, false, false, false] rfl rfl (take_ofW HT_.out HW_.out (by kernel_rfl)) (fun _ _ _ h => h) (Or.inl ⟨by rfl, ?_⟩) hHeld ?_ ?_
          rotate_left
          ·rintro w' ⟨s0, s1, s2, s3⟩
           go_simp
           with_reducible rfl
          rotate_left
          ·simp only [Act.put, List.setIfInBounds_toArray, List.set_cons_zero, List.set_cons_succ, i64_w, i32_w]
           rfl
          refine pure_ (i := 2) (N := some 99) (v := ?_) (a' := ?_) #[true, true, true, true, true, true, false, false, false] rfl rfl (any_of HT_.out (by kernel_rfl)) (fun _ _ _ h => h) (Or.inl ⟨by rfl, ?_⟩) ?_ ?_
          rotate_left
          ·intro w'
           go_simp
           with_reducible rfl
          rotate_left
          ·simp only [Act.put, List.setIfInBounds_toArray, List.set_cons_zero, List.set_cons_succ, i64_w, i32_w]
           rfl
          refine take_ (i := 6) (N := some 103) (v := ?_) (a' := ?_) #[true, true, true, true, true, true, true, false, false] rfl rfl (take_ofW HT_.out HW_.out (by kernel_rfl)) (fun _ _ _ h => h) (Or.inl ⟨by rfl, ?_⟩) hHeld ?_ ?_
          rotate_left
          ·rintro w' ⟨s0, s1, s2, s3⟩
           go_simp
           with_reducible rfl
          rotate_left
          ·simp only [Act.put, List.setIfInBounds_toArray, List.set_cons_zero, List.set_cons_succ, i64_w, i32_w]
           rfl
          refine one_ (i := 7) (N := some 104) #[true, true, true, true, true, true, true, true, false] rfl rfl (one_of HT_.out (by kernel_rfl)) (by decide) (fun K hK => ?_)
          refine goes_ Tryz.func49 (by kernel_rfl) rfl #[.string ((rd_T84 t240 3).f0)] (by rfl) rfl rfl (by (try simp only [List.map_toArray, List.map_cons, List.map_nil]); rfl) ?_
          with_reducible refine (depotref03_Value.calls ((rd_T84 t240 3).f0) t261 _ ?side1 A61.out).mono ?_
          (case side1 => exact Env.below HE.out (by repeat ((with_reducible exact HB.out))))
          rintro e w73 ⟨rfl, hb⟩
          have HS2_ := (hb.cell (World.block_lt_of_cell? _ _ (hHeld.2.2.1))).trans (hHeld.2.2.1)
          have HS3_ := (hb.cell (World.block_lt_of_cell? _ _ (hHeld.2.2.2))).trans (hHeld.2.2.2)
          refine ⟨_, rfl, ?_⟩
          have n0_ := Aside0.mk (Kd.R_below (by (with_reducible repeat (fail)); exact HO_5.out) hb)
          have n1_ := Aside0.mk (Kd.R_below (by (with_reducible repeat (fail)); exact HO_6.out) hb)
          have n2_ := Aside0.mk (Kd.R_below (by (with_reducible repeat (fail)); exact HO_8.out) hb)
          have n3_ := Aside0.mk (Kd.S_below (by (with_reducible repeat (fail)); exact HO_248001.out) hb)
          have n4_ := Aside0.mk (blk_below (g := gb236) (o := .cells #[.int .i64 x237000_1, .slice none 0 0] 24 (0, 0)) (by (with_reducible repeat (fail)); exact BK236.out) hb)
          have n5_ := Aside0.mk (blk_below (g := gb247) (o := .cells #[.int .i64 t246, .slice Ao72 x248001_1.length co72] 24 (0, 0)) (by (with_reducible repeat (fail)); exact BK247.out) hb)
          have n6_ := Aside0.mk (below_step (by repeat ((with_reducible exact HB.out))) hb)
          clear HO_5
          clear HO_6
          clear HO_8
          clear HO_248001
          clear BK236
          clear BK247
          clear HB
          have HO_5 := n0_
          have HO_6 := n1_
          have HO_8 := n2_
          have HO_248001 := n3_
          have BK236 := n4_
          have BK247 := n5_
          have HB := n6_
          clear n0_ n1_ n2_ n3_ n4_ n5_ n6_
          (try clear hb)
          (try clear hb2)
          (try clear hk)
          (try clear hi)
          refine hK.out _ _ ⟨(blk_cell BK247.out 0).trans rfl, (blk_cell BK247.out 1).trans rfl, HS2_, HS3_⟩ (fun hHeld => ?_)
          clear hK K
          refine norm_ (a' := ?_) ?_ ?_
          rotate_left
          ·show Act.put _ (some 104) _ = _
           simp only [Act.put, List.setIfInBounds_toArray, List.set_cons_zero, List.set_cons_succ, i64_w, i32_w]
           rfl
          refine pure_ (i := 8) (N := some 105) (v := ?_) (a' := ?_) #[true, true, true, true, true, true, true, true, true] rfl rfl (any_of HT_.out (by kernel_rfl)) (fun _ _ _ h => h) (Or.inl ⟨by rfl, ?_⟩) ?_ ?_
          rotate_left
          ·intro w'
           go_simp
           with_reducible rfl
          rotate_left
          ·simp only [Act.put, List.setIfInBounds_toArray, List.set_cons_zero, List.set_cons_succ, i64_w, i32_w]
           rfl
          refine done_ (done_of HT_.out (by kernel_rfl)) ?_
          have hnb74 := NB236_247.out
          have hnc74 := NB247_236.out
          have hcz75_0 : w73.cell? ⟨gb236, 0, none⟩ = some (.int .i64 x237000_1) := (blk_cell BK236.out 0).trans rfl
          have hcz75_1 : w73.cell? ⟨gb236, 1, none⟩ = some (.slice none 0 0) := (blk_cell BK236.out 1).trans rfl
          have hfz75_0 := blk_frozen BK236.out 0
          have hfz75_1 := blk_frozen BK236.out 1
          try go_wp2
          refine bodyPost_ret (results_ctt rfl _ _ gb236 24 #[.int .i64 0, .slice none 0 0] (0, 0) _ rfl (by (with_reducible repeat (fail)); refine blk_put (cs := #[.int .i64 0, .slice none 0 0]) ?_ 1 _ rfl; (with_reducible repeat (fail)); refine blk_put (cs := #[.int .i64 x237000_1, .slice none 0 0]) ?_ 0 _ rfl; (with_reducible repeat (fail)); exact BK236.out) Tryz.underlying24 rfl (by kernel_rfl)) rfl ?_
          exact ⟨_, by rfl, by exact Kd.S_nil _ _ _ _ _, by repeat ((with_reducible first | exact HB.out | refine below_set ?_ GE236.out))⟩
        ·rw [if_neg c60] at H
         exact absurd H (by simp)
   ·rw [if_neg c13] at H
    exact absurd H (by simp)
  ·replace c12 := Bool.eq_false_iff.mpr c12
   subst c12
   have H1 : (if 0 < (t240.length : Int) then (some (0, ([] : List (List Int)), 30, (rd_T84 t240 0).f1)) else (none)) = some (r1, r2, r3, r4) := by rw [if_neg (show ¬ (false = true) by decide)] at H; exact H
   clear H
   have H := H1
   clear H1
   by_cases c76 : 0 < (t240.length : Int)
   ·rw [if_pos c76] at H
    have c76b0 : decide (0 < (t240.length : Int)) = true := decide_eq_true c76
    have c76b1 : decide (0 < t240.length) = true := decide_eq_true (by omega)
    clear c76
    simp only [Option.some.injEq, Prod.mk.injEq] at H
    obtain ⟨rfl, rfl, rfl, rfl⟩ := H
    go_enter Tryz.func29, Tryz.ntmps29
    try go_wp2_with (first | ((with_reducible refine gate_dst (N := 2) rfl ?_); refine box_event ?hg (N := 2) ?hd (cs := #[.int .i64 0, .slice none 0 0]) (t := 24) ?hr ?_; (case hd => rfl); (case hg => rfl); (case hr => ((go_simp; done))); intro gb236 hg w77 hbox hb; have n0_ := Aside0.mk (below_step (by repeat ((with_reducible exact HB.out))) hb); have n1_ := Aside0.mk (hbox); have n2_ := Aside0.mk ((by rw [hg]; exact (below_size (by repeat ((with_reducible exact HB.out)))) : w.heap.size ≤ gb236)); have n3_ := Aside0.mk ((by rw [hg]; exact (below_size (by repeat ((with_reducible exact HB.out)))) : w.heap.size ≤ gb236)); clear HB; have HB := n0_; have BK236 := n1_; have GW236 := n2_; have GE236 := n3_; clear n0_ n1_ n2_ n3_; clear hb hbox hg) | ((with_reducible refine gate_callee (f := 46) rfl ?_); refine goesL_ (some 12) rfl rfl Tryz.func46 (by kernel_rfl) rfl #[.string a0] rfl (by (try simp only [List.map_toArray, List.map_cons, List.map_nil]); rfl) ?_; (with_reducible refine (depotref03_Lines.calls k a0 t237 _ A2.out).mono ?_); rintro e w78 ⟨v238, rfl, ho0, hb⟩; refine ⟨_, rfl, ?_⟩; have n0_ := Aside0.mk (Kd.R_lower ho0 (below_size (by repeat ((with_reducible exact HB.out))))); have n1_ := Aside0.mk (blk_below (g := gb236) (o := .cells #[.int .i64 0, .slice none 0 0] 24 (0, 0)) (by (with_reducible repeat (fail)); exact BK236.out) hb); have n2_ := Aside0.mk (below_step (by repeat ((with_reducible exact HB.out))) hb); clear BK236; clear HB; have HO239 := n0_; have BK236 := n1_; have HB := n2_; clear n0_ n1_ n2_; (try clear hb); (try clear hb2); (try clear hk); (try clear hi); (try clear ho0); obtain ⟨Ao79, co79, eo79⟩ := Kd.R_slice HO239.out; subst eo79) | ((with_reducible refine gate_callee (f := 47) rfl ?_); refine goesL_ (some 14) rfl rfl Tryz.func47 (by kernel_rfl) rfl #[.slice Ao79 t237.length co79] rfl (by (try simp only [List.map_toArray, List.map_cons, List.map_nil]); rfl) ?_; (with_reducible refine (depotref03_Spoken.calls k _ _ t237 t240 _ ?side1 ?side2 A3.out).mono ?_); (case side1 => repeat (exact (Kd.R_reads' HO239.out).2.2)); (case side2 => exact (Kd.R_reads' HO239.out).2.1); rintro e w80 ⟨v241, rfl, ho0, hb⟩; refine ⟨_, rfl, ?_⟩; have n0_ := Aside0.mk (Kd.R_below (by (with_reducible repeat (fail)); exact HO239.out) hb); have n1_ := Aside0.mk (Kd.R_lower ho0 (below_size (by repeat ((with_reducible exact HB.out))))); have n2_ := Aside0.mk (blk_below (g := gb236) (o := .cells #[.int .i64 0, .slice none 0 0] 24 (0, 0)) (by (with_reducible repeat (fail)); exact BK236.out) hb); have n3_ := Aside0.mk (below_step (by repeat ((with_reducible exact HB.out))) hb); clear HO239; clear BK236; clear HB; have HO239 := n0_; have HO242 := n1_; have BK236 := n2_; have HB := n3_; clear n0_ n1_ n2_ n3_; (try clear hb); (try clear hb2); (try clear hk); (try clear hi); (try clear ho0); obtain ⟨Ao81, co81, eo81⟩ := Kd.R_slice HO242.out; subst eo81) | ((with_reducible refine gate_callee (f := 48) rfl ?_); refine goesL_ (some 23) rfl rfl Tryz.func48 (by kernel_rfl) rfl #[.slice Ao81 t240.length co81] rfl (by (try simp only [List.map_toArray, List.map_cons, List.map_nil]); rfl) ?_; (with_reducible refine (depotref03_head.calls k _ _ t240 false _ ?side1 ?side2 ?side3 A11.out).mono ?_); (case side1 => repeat (exact (Kd.R_reads' HO242.out).2.2)); (case side2 => exact (Kd.R_reads' HO242.out).2.1); (case side3 => exact Env.below HE.out (by repeat ((with_reducible exact HB.out)))); rintro e w82 ⟨rfl, hb⟩; refine ⟨_, rfl, ?_⟩; have n0_ := Aside0.mk (Kd.R_below (by (with_reducible repeat (fail)); exact HO239.out) hb); have n1_ := Aside0.mk (Kd.R_below (by (with_reducible repeat (fail)); exact HO242.out) hb); have n2_ := Aside0.mk (blk_below (g := gb236) (o := .cells #[.int .i64 0, .slice none 0 0] 24 (0, 0)) (by (with_reducible repeat (fail)); exact BK236.out) hb); have n3_ := Aside0.mk (below_step (by repeat ((with_reducible exact HB.out))) hb); clear HO239; clear HO242; clear BK236; clear HB; have HO239 := n0_; have HO242 := n1_; have BK236 := n2_; have HB := n3_; clear n0_ n1_ n2_ n3_; (try clear hb); (try clear hb2); (try clear hk); (try clear hi)))
    have n0_ := Aside0.mk (Kd.R_drew HO239.out)
    have n1_ := Aside0.mk (Kd.R_drew HO242.out)
    have n2_ := Aside0.mk (blk_drew BK236.out)
    have n3_ := Aside0.mk (below_drew1 HB.out)
    clear HO239
    clear HO242
    clear BK236
    clear HB
    have HO239 := n0_
    have HO242 := n1_
    have BK236 := n2_
    have HB := n3_
    clear n0_ n1_ n2_ n3_
    have p244 : 0 ≤ (0 : Int) := (by omega)
    have q244 : 0 < (t240.length : Int) := of_decide_eq_true (by (with_reducible assumption))
    obtain ⟨ad244, e244, hx244_0, hx244_1⟩ := at_T84 (Kd.R_reads' HO242.out).2.2 0 p244 q244
    cases e244
    have qi244 : (0 < t240.length) = True := eq_true (by omega)
    (try rw [show ((0 : Int)).toNat = 0 from rfl] at hx244_0)
    (try rw [show 0 * 2 = 0 from rfl] at hx244_0)
    (try rw [Addr.add_zero'] at hx244_0)
    (try rw [show ((0 : Int)).toNat = 0 from rfl] at hx244_1)
    (try rw [show 0 * 2 = 0 from rfl] at hx244_1)
    (try rw [Addr.add_zero'] at hx244_1)
    replace p244 := eq_true p244
    replace q244 := eq_true q244
    refine start_ (n := 8) (S := fun w' => w'.cell? ad244 = some (.string ((rd_T84 t240 0).f0)) ∧ w'.cell? ⟨ad244.block, ad244.off + 1, none⟩ = some (.int .i64 ((rd_T84 t240 0).f1))) (ds := []) #[false, false, false, false, false, false, false, false] (by kernel_rfl) rfl rfl ⟨hx244_0, hx244_1⟩ (fun hHeld => ?_); refine with_tabW depotref03_Read.tab6 depotref03_Read.bits6 (fun HT_ HW_ => ?_)
    generalize w82.drew = w83 at HO239 HO242 BK236 HB hx244_0 hx244_1 hHeld ⊢
    refine pure_ (i := 0) (N := some 25) (v := ?_) (a' := ?_) #[true, false, false, false, false, false, false, false] rfl rfl (any_of HT_.out (by kernel_rfl)) (fun _ _ _ h => h) (Or.inl ⟨by rfl, ?_⟩) ?_ ?_
    rotate_left
    ·intro w'
     go_simp
     with_reducible rfl
    rotate_left
    ·simp only [Act.put, List.setIfInBounds_toArray, List.set_cons_zero, List.set_cons_succ, i64_w, i32_w]
     rfl
    refine pure_ (i := 1) (N := some 26) (v := ?_) (a' := ?_) #[true, true, false, false, false, false, false, false] rfl rfl (any_of HT_.out (by kernel_rfl)) (fun _ _ _ h => h) (Or.inl ⟨by rfl, ?_⟩) ?_ ?_
    rotate_left
    ·intro w'
     go_simp
     with_reducible rfl
    rotate_left
    ·simp only [Act.put, List.setIfInBounds_toArray, List.set_cons_zero, List.set_cons_succ, i64_w, i32_w]
     rfl
    refine pure_ (i := 2) (N := some 27) (v := ?_) (a' := ?_) #[true, true, true, false, false, false, false, false] rfl rfl (any_of HT_.out (by kernel_rfl)) (fun _ _ _ h => h) (Or.inl ⟨by rfl, ?_⟩) ?_ ?_
    rotate_left
    ·intro w'
     go_simp
     with_reducible rfl
    rotate_left
    ·simp only [Act.put, List.setIfInBounds_toArray, List.set_cons_zero, List.set_cons_succ, i64_w, i32_w]
     rfl
    refine pure_ (i := 3) (N := some 28) (v := ?_) (a' := ?_) #[true, true, true, true, false, false, false, false] rfl rfl (any_of HT_.out (by kernel_rfl)) (fun _ _ _ h => h) (Or.inl ⟨by rfl, ?_⟩) ?_ ?_
    rotate_left
    ·intro w'
     go_simp
     with_reducible rfl
    rotate_left
    ·simp only [Act.put, List.setIfInBounds_toArray, List.set_cons_zero, List.set_cons_succ, i64_w, i32_w]
     rfl
    refine take_ (i := 4) (N := some 29) (v := ?_) (a' := ?_) #[true, true, true, true, true, false, false, false] rfl rfl (take_ofW HT_.out HW_.out (by kernel_rfl)) (fun _ _ _ h => h) (Or.inl ⟨by rfl, ?_⟩) hHeld ?_ ?_
    rotate_left
    ·rintro w' ⟨s0, s1⟩
     go_simp
     with_reducible rfl
    rotate_left
    ·simp only [Act.put, List.setIfInBounds_toArray, List.set_cons_zero, List.set_cons_succ, i64_w, i32_w]
     rfl
    refine one_ (i := 5) (N := none) #[true, true, true, true, true, true, false, false] rfl rfl (one_of HT_.out (by kernel_rfl)) (by decide) (fun K hK => ?_)
    have hs84 : w83.cell? ⟨gb236, 0, none⟩ = some (.int .i64 0) := (blk_cell BK236.out 0).trans rfl
    have hfs84 := blk_frozen BK236.out 0
    have hs85 : w83.cell? ⟨gb236, 1, none⟩ = some (.slice none 0 0) := (blk_cell BK236.out 1).trans rfl
    have hfs85 := blk_frozen BK236.out 1
    refine skip_ (w1 := ?_) (by rfl) rfl ?_ ?_
    rotate_left
    ·go_simp
     rfl
    refine hK.out _ _ ⟨((cell_far (p := ⟨gb236, _, none⟩) (by exact Kd.own_blk (Kd.R_ne HO242.out BK236.out (by decide))) _).trans (((cell_far (p := ⟨gb236, _, none⟩) (by exact Kd.own_blk (Kd.R_ne HO242.out BK236.out (by decide))) _).trans (hHeld.1)))), ((cell_far (p := ⟨gb236, _, none⟩) (by ((dsimp only; exact Kd.own_blk (Kd.R_ne HO242.out BK236.out (by decide))))) _).trans (((cell_far (p := ⟨gb236, _, none⟩) (by ((dsimp only; exact Kd.own_blk (Kd.R_ne HO242.out BK236.out (by decide))))) _).trans (hHeld.2))))⟩ (fun hHeld => ?_)
    clear hK K
    refine pure_ (i := 6) (N := some 3) (v := ?_) (a' := ?_) #[true, true, true, true, true, true, true, false] rfl rfl (any_of HT_.out (by kernel_rfl)) (fun _ _ _ h => h) (Or.inl ⟨by rfl, ?_⟩) ?_ ?_
    rotate_left
    ·intro w'
     go_simp
     with_reducible rfl
    rotate_left
    ·simp only [Act.put, List.setIfInBounds_toArray, List.set_cons_zero, List.set_cons_succ, i64_w, i32_w]
     rfl
    refine pure_ (i := 7) (N := some 4) (v := ?_) (a' := ?_) #[true, true, true, true, true, true, true, true] rfl rfl (any_of HT_.out (by kernel_rfl)) (fun _ _ _ h => h) (Or.inl ⟨by rfl, ?_⟩) ?_ ?_
    rotate_left
    ·intro w'
     go_simp
     with_reducible rfl
    rotate_left
    ·simp only [Act.put, List.setIfInBounds_toArray, List.set_cons_zero, List.set_cons_succ, i64_w, i32_w]
     rfl
    refine done_ (done_of HT_.out (by kernel_rfl)) ?_
    try go_wp2
    refine bodyPost_ret (results_ctt rfl _ _ gb236 24 #[.int .i64 0, .slice none 0 0] (0, 0) _ rfl (by (with_reducible repeat (fail)); refine blk_put (cs := #[.int .i64 0, .slice none 0 0]) ?_ 1 _ rfl; (with_reducible repeat (fail)); refine blk_put (cs := #[.int .i64 0, .slice none 0 0]) ?_ 0 _ rfl; (with_reducible repeat (fail)); exact BK236.out) Tryz.underlying24 rfl (by kernel_rfl)) rfl ?_
    exact ⟨_, by rfl, by exact Kd.S_nil _ _ _ _ _, by repeat ((with_reducible first | exact HB.out | refine below_set ?_ GE236.out))⟩
   ·rw [if_neg c76] at H
    exact absurd H (by simp)

end Go.Proofs.YtlhajfepcggjaaaGreatDoor.R
