/- Lean functions of the Go functions that the laws of this seat reach, and the proof that each call comes to them: written by a program of this session (wip/printx.sh) over the kit's print. No conditions. -/
import Derived.Test.YtlhajfepcggjaaaGreatDoorRx0
import Derived.Test.YtlhajfepcggjaaaGreatDoorRx5
import Derived.Test.YtlhajfepcggjaaaGreatDoorRx7
namespace Go.Proofs.YtlhajfepcggjaaaGreatDoor.R
open Go.RowKit Go.Proofs.YtlhajfepcggjaaaGreatDoorW.PrintWords Go.Proofs.YtlhajfepcggjaaaGreatDoorW.PrintLast Go.Proofs.YtlhajfepcggjaaaGreatDoorW.PrintMore
attribute [local go_sem] max2_int min2_int max_two min_two max_three min_three max_four min_four   -- for this text's walks alone
set_option linter.unusedVariables false
set_option linter.unusedSimpArgs false

/-! ### depotkit_KeptRows: function 7 -/
mutual
def depotkit_KeptRows.j0 : Nat → List (List Int) → Bool → List (List Int) → List (List Int) → List (List Int) → Option (Bool)
 | 0, _, _, _, _, _ => none
 | k + 1, x1, x24, x214000, x214001, x214002 => if x24 = true then (some false) else (depotkit_KeptRows.l0 k x1 0 x214000 x214001 x214002)
def depotkit_KeptRows.l0 : Nat → List (List Int) → Int → List (List Int) → List (List Int) → List (List Int) → Option (Bool)
 | 0, _, _, _, _, _ => none
 | k + 1, x1, x5, x214000, x214001, x214002 => if x5 < (x1.length : Int) then (if 0 ≤ x5 then (if x5 < (x214001.length : Int) then (if ((rd_L3 x214001 x5).length : Int) = ((rd_L3 x1 x5).length : Int) then (if x5 < (x214002.length : Int) then ((depotkit_Kept.f k (rd_L3 x214002 x5) (rd_L3 x1 x5)).bind fun t218 => (depotkit_KeptRows.j2 k x1 x5 (rd_L3 x214001 x5) (!t218) x214000 x214001 x214002)) else (none)) else (depotkit_KeptRows.j2 k x1 x5 (rd_L3 x214001 x5) true x214000 x214001 x214002)) else (none)) else (none)) else (depotkit_KeptRows.l2 k x1 0 x214000 x214001 x214002)
def depotkit_KeptRows.j2 : Nat → List (List Int) → Int → List Int → Bool → List (List Int) → List (List Int) → List (List Int) → Option (Bool)
 | 0, _, _, _, _, _, _, _ => none
 | k + 1, x1, x5, x6, x56, x214000, x214001, x214002 => if x56 = true then (some false) else (depotkit_KeptRows.l1 k x1 x5 x6 0 x214000 x214001 x214002)
def depotkit_KeptRows.l1 : Nat → List (List Int) → Int → List Int → Int → List (List Int) → List (List Int) → List (List Int) → Option (Bool)
 | 0, _, _, _, _, _, _, _ => none
 | k + 1, x1, x5, x6, x7, x214000, x214001, x214002 => if x7 < (x6.length : Int) then (if 0 ≤ x7 then (if 0 ≤ x5 then (if x5 < (x1.length : Int) then (if x7 < ((rd_L3 x1 x5).length : Int) then (if (rd x6 x7) = (rd (rd_L3 x1 x5) x7) then (depotkit_KeptRows.l1 k x1 x5 x6 (wrap64 (x7 + 1)) x214000 x214001 x214002) else (some false)) else (none)) else (none)) else (none)) else (none)) else (depotkit_KeptRows.l0 k x1 (wrap64 (x5 + 1)) x214000 x214001 x214002)
def depotkit_KeptRows.l2 : Nat → List (List Int) → Int → List (List Int) → List (List Int) → List (List Int) → Option (Bool)
 | 0, _, _, _, _, _ => none
 | k + 1, x1, x8, x214000, x214001, x214002 => if x8 < 64 then (if 0 ≤ (wrap64 ((x1.length : Int) + x8)) then (if (wrap64 ((x1.length : Int) + x8)) < (x214001.length : Int) then (if ((rd_L3 x214001 (wrap64 ((x1.length : Int) + x8))).length : Int) = 1 then (if 0 < ((rd_L3 x214001 (wrap64 ((x1.length : Int) + x8))).length : Int) then ((depotkit_mark.f 1 x8).bind fun t224 => (if (rd (rd_L3 x214001 (wrap64 ((x1.length : Int) + x8))) 0) = t224 then (depotkit_KeptRows.l2 k x1 (wrap64 (x8 + 1)) x214000 x214001 x214002) else (some false))) else (none)) else (some false)) else (none)) else (none)) else (some true)
end
def depotkit_KeptRows.f (k : Nat) (l0_0 : List (List Int)) (l0_1 : List (List Int)) (l0_2 : List (List Int)) (l1 : List (List Int)) : Option (Bool) := if (l0_1.length : Int) = (wrap64 ((l1.length : Int) + 64)) then (depotkit_KeptRows.j0 k l1 ((l0_2.length : Int) != (l1.length : Int)) l0_0 l0_1 l0_2) else (depotkit_KeptRows.j0 k l1 true l0_0 l0_1 l0_2)
set_option maxHeartbeats 8000000 in
set_option maxRecDepth 100000 in
theorem depotkit_KeptRows.calls (k : Nat) (A0_0 : Option Addr) (c0_0 : Nat) (l0_0 : List (List Int)) (A0_1 : Option Addr) (c0_1 : Nat) (l0_1 : List (List Int)) (A0_2 : Option Addr) (c0_2 : Nat) (l0_2 : List (List Int)) (A1 : Option Addr) (c1 : Nat) (l1 : List (List Int)) (r : Bool) (w : World) (hr0_0 : Kd.C (Kd.slice 3 (Kd.int .i64)) w A0_0 l0_0.length l0_0) (hc0_0 : l0_0.length ≤ c0_0) (hr0_1 : Kd.C (Kd.slice 3 (Kd.int .i64)) w A0_1 l0_1.length l0_1) (hc0_1 : l0_1.length ≤ c0_1) (hr0_2 : Kd.C (Kd.slice 3 (Kd.int .i64)) w A0_2 l0_2.length l0_2) (hc0_2 : l0_2.length ≤ c0_2) (hr1 : Kd.C (Kd.slice 3 (Kd.int .i64)) w A1 l1.length l1) (hc1 : l1.length ≤ c1) (h : depotkit_KeptRows.f k l0_0 l0_1 l0_2 l1 = some r) :
  Calls Tryz.prog 7 #[.agg #[.slice A0_0 l0_0.length c0_0, .slice A0_1 l0_1.length c0_1, .slice A0_2 l0_2.length c0_2], .slice A1 l1.length c1] w fun e w' => e = .returned (.bool r) ∧ Below w.heap.size w w' := by
 have hu29 := Tryz.underlying29
 have HR0_0 := Aside0.mk hr0_0
 have HC0_0 := Aside0.mk hc0_0
 clear hr0_0 hc0_0
 have HR0_1 := Aside0.mk hr0_1
 have HC0_1 := Aside0.mk hc0_1
 clear hr0_1 hc0_1
 have HR0_2 := Aside0.mk hr0_2
 have HC0_2 := Aside0.mk hc0_2
 clear hr0_2 hc0_2
 have HR1 := Aside0.mk hr1
 have HC1 := Aside0.mk hc1
 clear hr1 hc1
 have HB := Aside0.mk (Below.refl w.heap.size w)
 have H : (if (l0_1.length : Int) = (wrap64 ((l1.length : Int) + 64)) then (depotkit_KeptRows.j0 k l1 ((l0_2.length : Int) != (l1.length : Int)) l0_0 l0_1 l0_2) else (depotkit_KeptRows.j0 k l1 true l0_0 l0_1 l0_2)) = some r := h
 clear h
 have HC3 := Aside0.mk H
 clear H
 go_enter Tryz.func7, Tryz.ntmps7
 go_upto_region 1 with ((((with_reducible refine gate_dst (N := 2) rfl ?_); (try (refine gate_guard (by rfl) ?_; dsimp only)); refine box_event ?hg (N := 2) ?hd (cs := #[.slice A0_0 l0_0.length c0_0, .slice A0_1 l0_1.length c0_1, .slice A0_2 l0_2.length c0_2]) (t := 29) ?hr ?_; (case hd => rfl); (case hg => rfl); (case hr => ((go_simp; done))); intro gb213 hg w4 hbox hb; have n0_ := Aside0.mk (below_step (by repeat ((with_reducible exact HB.out))) hb); have n1_ := Aside0.mk (hbox); have n2_ := Aside0.mk ((by rw [hg]; exact (below_size (by repeat ((with_reducible exact HB.out)))) : w.heap.size ≤ gb213)); have n3_ := Aside0.mk ((by rw [hg]; exact (below_size (by repeat ((with_reducible exact HB.out)))) : w.heap.size ≤ gb213)); clear HB; have HB := n0_; have BK213 := n1_; have GW213 := n2_; have GE213 := n3_; clear n0_ n1_ n2_ n3_; clear hb hbox hg)))
 (try simp only [Act.put, List.setIfInBounds_toArray, List.set_cons_zero, List.set_cons_succ])
 go_cut [24] (fun v24 wc => ∃ (kq : Nat) (x24_2 : Bool), v24 = .bool x24_2 ∧ Aside0 (depotkit_KeptRows.j0 kq l1 x24_2 l0_0 l0_1 l0_2 = some r) ∧ Aside0 (kq ≤ k) ∧ Aside0 (wc.heap[gb213]? = some (.cells #[(.slice A0_0 l0_0.length c0_0), (.slice A0_1 l0_1.length c0_1), (.slice A0_2 l0_2.length c0_2)] 29 (0, 0))) ∧ Aside0 (Below w.heap.size w wc))
 case first =>
  have H := HC3.out
  clear HC3
  by_cases c5 : (l0_1.length : Int) = (wrap64 ((l1.length : Int) + 64))
  ·rw [if_pos c5] at H
   have c5b0 : ((l0_1.length : Int) == (wrap64 ((l1.length : Int) + 64))) = true := beq_iff_eq.mpr c5
   have c5b1 : ((l0_1.length : Int) != (wrap64 ((l1.length : Int) + 64))) = false := bne_eq_false_iff_eq.mpr c5
   clear c5
   (skip)
   have H' := Aside0.mk H
   clear H
   have hcz6_0 : w4.cell? ⟨gb213, 0, none⟩ = some (.slice A0_0 l0_0.length c0_0) := (blk_cell BK213.out 0).trans rfl
   have hcz6_1 : w4.cell? ⟨gb213, 1, none⟩ = some (.slice A0_1 l0_1.length c0_1) := (blk_cell BK213.out 1).trans rfl
   have hcz6_2 : w4.cell? ⟨gb213, 2, none⟩ = some (.slice A0_2 l0_2.length c0_2) := (blk_cell BK213.out 2).trans rfl
   have hfz6_0 := blk_frozen BK213.out 0
   have hfz6_1 := blk_frozen BK213.out 1
   have hfz6_2 := blk_frozen BK213.out 2
   go_wp2
   go_meet
   case rel => exact ⟨_, (((l0_2.length : Int) != (l1.length : Int))), (by rfl), H', ⟨by omega⟩, ⟨by (with_reducible repeat (fail)); exact BK213.out⟩, ⟨by repeat ((with_reducible exact HB.out))⟩⟩
  ·rw [if_neg c5] at H
   have c5b0 : ((l0_1.length : Int) == (wrap64 ((l1.length : Int) + 64))) = false := beq_eq_false_iff_ne.mpr c5
   have c5b1 : ((l0_1.length : Int) != (wrap64 ((l1.length : Int) + 64))) = true := bne_iff_ne.mpr c5
   (skip)
   have H' := Aside0.mk H
   clear H
   have hcz7_0 : w4.cell? ⟨gb213, 0, none⟩ = some (.slice A0_0 l0_0.length c0_0) := (blk_cell BK213.out 0).trans rfl
   have hcz7_1 : w4.cell? ⟨gb213, 1, none⟩ = some (.slice A0_1 l0_1.length c0_1) := (blk_cell BK213.out 1).trans rfl
   have hcz7_2 : w4.cell? ⟨gb213, 2, none⟩ = some (.slice A0_2 l0_2.length c0_2) := (blk_cell BK213.out 2).trans rfl
   have hfz7_0 := blk_frozen BK213.out 0
   have hfz7_1 := blk_frozen BK213.out 1
   have hfz7_2 := blk_frozen BK213.out 2
   go_wp2
   go_meet
   case rel => exact ⟨_, (true), (by rfl), H', ⟨by omega⟩, ⟨by (with_reducible repeat (fail)); exact BK213.out⟩, ⟨by repeat ((with_reducible exact HB.out))⟩⟩
 case rest =>
  clear HC3
  try clear c1
  try clear p2
  try clear c5
  try clear c5b0
  try clear c5b1
  try clear p6
  try clear c7
  try clear hcz6_0
  try clear hcz6_1
  try clear hcz6_2
  try clear hcz7_0
  try clear hcz7_1
  try clear hcz7_2
  try clear hfz6_0
  try clear hfz6_1
  try clear hfz6_2
  try clear hfz7_0
  try clear hfz7_1
  try clear hfz7_2
  obtain ⟨kq, x24_2, rfl, HA, HJ2, BK213, HB⟩ := hcut
  cases kq with
  | zero => exact absurd HA.out (by simp [depotkit_KeptRows.j0])
  | succ kj2 =>
   have H := HA.out
   clear HA
   simp only [depotkit_KeptRows.j0] at H
   by_cases c8 : x24_2 = true
   ·subst c8
    have H1 : (some false) = some r := by rw [if_pos rfl] at H; exact H
    clear H
    have H := H1
    clear H1
    obtain rfl := Option.some.inj H
    go_wp2
    go_ret
    exact ⟨by rfl, by repeat ((with_reducible exact HB.out))⟩
   ·replace c8 := Bool.eq_false_iff.mpr c8
    subst c8
    have H1 : (depotkit_KeptRows.l0 kj2 l1 0 l0_0 l0_1 l0_2) = some r := by rw [if_neg (show ¬ (false = true) by decide)] at H; exact H
    clear H
    have H := H1
    clear H1
    have H' := Aside0.mk H
    clear H
    go_wp2
    go_loopg [5] kj2 (fun kq v5 w' => ∃ (x5_2 : Int), v5 = .int .i64 x5_2 ∧ Aside0 (depotkit_KeptRows.l0 kq l1 x5_2 l0_0 l0_1 l0_2 = some r) ∧ Aside0 (kq ≤ kj2) ∧ Aside0 (w'.heap[gb213]? = some (.cells #[(.slice A0_0 l0_0.length c0_0), (.slice A0_1 l0_1.length c0_1), (.slice A0_2 l0_2.length c0_2)] 29 (0, 0))) ∧ Aside0 (Below w.heap.size w w'))
    case atStart => exact ⟨(0), (by rfl), H', ⟨Nat.le_refl _⟩, ⟨by (with_reducible repeat (fail)); exact BK213.out⟩, ⟨by repeat ((with_reducible exact HB.out))⟩⟩
    case round =>
     clear H'
     try clear c1
     try clear p2
     try clear c5
     try clear c5b0
     try clear c5b1
     try clear p6
     try clear c7
     try clear c8
     try clear hcz6_0
     try clear hcz6_1
     try clear hcz6_2
     try clear hcz7_0
     try clear hcz7_1
     try clear hcz7_2
     try clear hfz6_0
     try clear hfz6_1
     try clear hfz6_2
     try clear hfz7_0
     try clear hfz7_1
     try clear hfz7_2
     try clear p2
     try clear p6
     obtain ⟨x5_2, rfl, HA, HK2, BK213, HB⟩ := hrel
     cases gk with
     | zero => exact absurd HA.out (by simp [depotkit_KeptRows.l0])
     | succ k2 =>
      have H := HA.out
      clear HA
      simp only [depotkit_KeptRows.l0] at H
      by_cases c9 : x5_2 < (l1.length : Int)
      ·rw [if_pos c9] at H
       have c9b0 : decide (x5_2 < (l1.length : Int)) = true := decide_eq_true c9
       clear c9
       by_cases c10 : 0 ≤ x5_2
       ·rw [if_pos c10] at H
        have c10b0 : decide (0 ≤ x5_2) = true := decide_eq_true c10
        clear c10
        by_cases c11 : x5_2 < (l0_1.length : Int)
        ·rw [if_pos c11] at H
         have c11b0 : decide (x5_2 < (l0_1.length : Int)) = true := decide_eq_true c11
         clear c11
         have HC12 := Aside0.mk H
         clear H
         have hcz13_0 : wr.cell? ⟨gb213, 0, none⟩ = some (.slice A0_0 l0_0.length c0_0) := (blk_cell BK213.out 0).trans rfl
         have hcz13_1 : wr.cell? ⟨gb213, 1, none⟩ = some (.slice A0_1 l0_1.length c0_1) := (blk_cell BK213.out 1).trans rfl
         have hcz13_2 : wr.cell? ⟨gb213, 2, none⟩ = some (.slice A0_2 l0_2.length c0_2) := (blk_cell BK213.out 2).trans rfl
         have hfz13_0 := blk_frozen BK213.out 0
         have hfz13_1 := blk_frozen BK213.out 1
         have hfz13_2 := blk_frozen BK213.out 2
         have p214 : 0 ≤ (x5_2 : Int) := of_decide_eq_true (by (with_reducible assumption))
         have q214 : x5_2 < (l0_1.length : Int) := of_decide_eq_true (by (with_reducible assumption))
         obtain ⟨ad214, A214_0, c214_0, e214, hx214_0, hl214_0, hi214_0⟩ := at_L3 HR0_1.out x5_2 p214 q214
         cases e214
         replace hx214_0 := (HB.out.cell (World.block_lt_of_cell? w _ hx214_0)).trans hx214_0
         have HR214_0 := Aside0.mk hi214_0
         have HC214_0 := Aside0.mk hl214_0
         clear hi214_0 hl214_0
         replace p214 := eq_true p214
         replace q214 := eq_true q214
         go_upto_region 7 with (fail)
         go_cut [56] (fun v56 wc => ∃ (kq : Nat) (x56_11 : Bool), v56 = .bool x56_11 ∧ Aside0 (depotkit_KeptRows.j2 kq l1 x5_2 (rd_L3 l0_1 x5_2) x56_11 l0_0 l0_1 l0_2 = some r) ∧ Aside0 (kq ≤ k2) ∧ Aside0 (wc.heap[gb213]? = some (.cells #[(.slice A0_0 l0_0.length c0_0), (.slice (some ad214) l0_1.length c0_1), (.slice A0_2 l0_2.length c0_2)] 29 (0, 0))) ∧ Aside0 (Below w.heap.size w wc))
         case first =>
          have H := HC12.out
          clear HC12
          by_cases c14 : ((rd_L3 l0_1 x5_2).length : Int) = ((rd_L3 l1 x5_2).length : Int)
          ·rw [if_pos c14] at H
           have c14b0 : (((rd_L3 l0_1 x5_2).length : Int) == ((rd_L3 l1 x5_2).length : Int)) = true := beq_iff_eq.mpr c14
           have c14b1 : (((rd_L3 l0_1 x5_2).length : Int) != ((rd_L3 l1 x5_2).length : Int)) = false := bne_eq_false_iff_eq.mpr c14
           have c14b2 : ((rd_L3 l0_1 x5_2).length == (rd_L3 l1 x5_2).length) = true := by ((simp at c14 ⊢; omega))
           clear c14
           (skip)
           by_cases c15 : x5_2 < (l0_2.length : Int)
           ·rw [if_pos c15] at H
            have c15b0 : decide (x5_2 < (l0_2.length : Int)) = true := decide_eq_true c15
            clear c15
            replace H := Option.bind_eq_some_iff.mp H
            obtain ⟨t218, A160, H⟩ := H
            replace H : (depotkit_KeptRows.j2 k2 l1 x5_2 (rd_L3 l0_1 x5_2) (!t218) l0_0 l0_1 l0_2) = some r := H
            have A16 := Aside0.mk A160
            clear A160
            have H' := Aside0.mk H
            clear H
            have p215 : 0 ≤ (x5_2 : Int) := of_decide_eq_true (by (with_reducible assumption))
            have q215 : x5_2 < (l1.length : Int) := of_decide_eq_true (by (with_reducible assumption))
            obtain ⟨ad215, A215_0, c215_0, e215, hx215_0, hl215_0, hi215_0⟩ := at_L3 HR1.out x5_2 p215 q215
            cases e215
            replace hx215_0 := (HB.out.cell (World.block_lt_of_cell? w _ hx215_0)).trans hx215_0
            have HR215_0 := Aside0.mk hi215_0
            have HC215_0 := Aside0.mk hl215_0
            clear hi215_0 hl215_0
            replace p215 := eq_true p215
            replace q215 := eq_true q215
            have hcz17_0 : wr.cell? ⟨gb213, 0, none⟩ = some (.slice A0_0 l0_0.length c0_0) := (blk_cell BK213.out 0).trans rfl
            have hcz17_1 : wr.cell? ⟨gb213, 1, none⟩ = some (.slice (some ad214) l0_1.length c0_1) := (blk_cell BK213.out 1).trans rfl
            have hcz17_2 : wr.cell? ⟨gb213, 2, none⟩ = some (.slice A0_2 l0_2.length c0_2) := (blk_cell BK213.out 2).trans rfl
            have hfz17_0 := blk_frozen BK213.out 0
            have hfz17_1 := blk_frozen BK213.out 1
            have hfz17_2 := blk_frozen BK213.out 2
            have p216 : 0 ≤ (x5_2 : Int) := of_decide_eq_true (by (with_reducible assumption))
            have q216 : x5_2 < (l0_2.length : Int) := of_decide_eq_true (by (with_reducible assumption))
            obtain ⟨ad216, A216_0, c216_0, e216, hx216_0, hl216_0, hi216_0⟩ := at_L3 HR0_2.out x5_2 p216 q216
            cases e216
            replace hx216_0 := (HB.out.cell (World.block_lt_of_cell? w _ hx216_0)).trans hx216_0
            have HR216_0 := Aside0.mk hi216_0
            have HC216_0 := Aside0.mk hl216_0
            clear hi216_0 hl216_0
            replace p216 := eq_true p216
            replace q216 := eq_true q216
            have p217 : 0 ≤ (x5_2 : Int) := of_decide_eq_true (by (with_reducible assumption))
            have q217 : x5_2 < (l1.length : Int) := of_decide_eq_true (by (with_reducible assumption))
            obtain ⟨ad217, A217_0, c217_0, e217, hx217_0, hl217_0, hi217_0⟩ := at_L3 HR1.out x5_2 p217 q217
            obtain rfl : ad215 = ad217 := (by injection e217)
            replace hx217_0 := (HB.out.cell (World.block_lt_of_cell? w _ hx217_0)).trans hx217_0
            have HR217_0 := Aside0.mk hi217_0
            have HC217_0 := Aside0.mk hl217_0
            clear hi217_0 hl217_0
            replace p217 := eq_true p217
            replace q217 := eq_true q217
            have ea_ := Option.some.inj (hx215_0.symm.trans hx217_0)
            injection ea_ with ea_ en_ ec_
            subst ea_
            subst ec_
            clear en_
            go_wp2_with (fail)
            repeat (go_quiet (((go_at_call 24; (with_reducible refine (depotkit_Kept.calls k2 _ _ (rd_L3 l0_2 x5_2) _ _ (rd_L3 l1 x5_2) t218 _ ?side1 ?side2 ?side3 ?side4 A16.out).mono ?_); (case side1 => repeat (first | exact (Kd.C_below HR216_0.out HB.out) | (with_reducible refine Kd.C_drewN ?_ _))); (case side2 => exact HC216_0.out); (case side3 => repeat (first | exact (Kd.C_below HR217_0.out HB.out) | (with_reducible refine Kd.C_drewN ?_ _))); (case side4 => exact HC217_0.out); rintro e w' ⟨rfl, ⟨nd, rfl⟩⟩; (try exact ⟨rfl, _, World.drewN_drewN _ _ _⟩)))); try go_wp2_with (fail))
            go_meet
            case rel => exact ⟨_, (!t218), (by rfl), H', ⟨by have := HJ2.out; have := HK2.out; omega⟩, ⟨by (with_reducible repeat (refine blk_drewN ?_ _)); exact BK213.out⟩, ⟨by repeat ((with_reducible first | exact HB.out | apply pw_below_drewN))⟩⟩
           ·rw [if_neg c15] at H
            exact absurd H (by simp)
          ·rw [if_neg c14] at H
           have c14b0 : (((rd_L3 l0_1 x5_2).length : Int) == ((rd_L3 l1 x5_2).length : Int)) = false := beq_eq_false_iff_ne.mpr c14
           have c14b1 : (((rd_L3 l0_1 x5_2).length : Int) != ((rd_L3 l1 x5_2).length : Int)) = true := bne_iff_ne.mpr c14
           have c14b2 : ((rd_L3 l0_1 x5_2).length == (rd_L3 l1 x5_2).length) = false := by ((simp at c14 ⊢; omega))
           (skip)
           have H' := Aside0.mk H
           clear H
           have p215 : 0 ≤ (x5_2 : Int) := of_decide_eq_true (by (with_reducible assumption))
           have q215 : x5_2 < (l1.length : Int) := of_decide_eq_true (by (with_reducible assumption))
           obtain ⟨ad215, A215_0, c215_0, e215, hx215_0, hl215_0, hi215_0⟩ := at_L3 HR1.out x5_2 p215 q215
           cases e215
           replace hx215_0 := (HB.out.cell (World.block_lt_of_cell? w _ hx215_0)).trans hx215_0
           have HR215_0 := Aside0.mk hi215_0
           have HC215_0 := Aside0.mk hl215_0
           clear hi215_0 hl215_0
           replace p215 := eq_true p215
           replace q215 := eq_true q215
           go_wp2
           repeat (go_quiet (fail); try go_wp2)
           go_meet
           case rel => exact ⟨_, (true), (by rfl), H', ⟨by have := HJ2.out; have := HK2.out; omega⟩, ⟨by (with_reducible repeat (refine blk_drewN ?_ _)); exact BK213.out⟩, ⟨by repeat ((with_reducible first | exact HB.out | apply pw_below_drewN))⟩⟩
         case rest =>
          clear HC12
          try clear c1
          try clear c2
          try clear p2
          try clear q2
          try clear hx2
          try clear c5
          try clear c5b0
          try clear c5b1
          try clear p6
          try clear c7
          try clear c8
          try clear c9
          try clear c9b0
          try clear c10
          try clear c10b0
          try clear c11
          try clear c11b0
          try clear c14
          try clear c14b0
          try clear c14b1
          try clear c14b2
          try clear c15
          try clear c15b0
          try clear hcz13_0
          try clear hcz13_1
          try clear hcz13_2
          try clear hcz17_0
          try clear hcz17_1
          try clear hcz17_2
          try clear hcz6_0
          try clear hcz6_1
          try clear hcz6_2
          try clear hcz7_0
          try clear hcz7_1
          try clear hcz7_2
          try clear hfz13_0
          try clear hfz13_1
          try clear hfz13_2
          try clear hfz17_0
          try clear hfz17_1
          try clear hfz17_2
          try clear hfz6_0
          try clear hfz6_1
          try clear hfz6_2
          try clear hfz7_0
          try clear hfz7_1
          try clear hfz7_2
          try clear hx214_0
          try clear hx215_0
          try clear hx216_0
          try clear hx217_0
          try clear p2
          try clear p214
          try clear p215
          try clear p216
          try clear p217
          try clear p6
          try clear q214
          try clear q215
          try clear q216
          try clear q217
          obtain ⟨kq, x56_11, rfl, HA, HJ11, BK213, HB⟩ := hcut
          cases kq with
          | zero => exact absurd HA.out (by simp [depotkit_KeptRows.j2])
          | succ kj11 =>
           have H := HA.out
           clear HA
           simp only [depotkit_KeptRows.j2] at H
           by_cases c18 : x56_11 = true
           ·subst c18
            have H1 : (some false) = some r := by rw [if_pos rfl] at H; exact H
            clear H
            have H := H1
            clear H1
            obtain rfl := Option.some.inj H
            go_wp2
            go_ret
            exact ⟨by rfl, by repeat ((with_reducible exact HB.out))⟩
           ·replace c18 := Bool.eq_false_iff.mpr c18
            subst c18
            have H1 : (depotkit_KeptRows.l1 kj11 l1 x5_2 (rd_L3 l0_1 x5_2) 0 l0_0 l0_1 l0_2) = some r := by rw [if_neg (show ¬ (false = true) by decide)] at H; exact H
            clear H
            have H := H1
            clear H1
            have H' := Aside0.mk H
            clear H
            go_wp2
            go_loopg [7] kj11 (fun kq v7 w' => ∃ (x7_4 : Int), v7 = .int .i64 x7_4 ∧ Aside0 (depotkit_KeptRows.l1 kq l1 x5_2 (rd_L3 l0_1 x5_2) x7_4 l0_0 l0_1 l0_2 = some r) ∧ Aside0 (kq ≤ kj11) ∧ Aside0 (w'.heap[gb213]? = some (.cells #[(.slice A0_0 l0_0.length c0_0), (.slice (some ad214) l0_1.length c0_1), (.slice A0_2 l0_2.length c0_2)] 29 (0, 0))) ∧ Aside0 (Below w.heap.size w w'))
            case atStart => exact ⟨(0), (by rfl), H', ⟨Nat.le_refl _⟩, ⟨by (with_reducible repeat (fail)); exact BK213.out⟩, ⟨by repeat ((with_reducible exact HB.out))⟩⟩
            case round =>
             clear H'
             try clear c1
             try clear c2
             try clear p2
             try clear q2
             try clear hx2
             try clear c5
             try clear c5b0
             try clear c5b1
             try clear p6
             try clear c7
             try clear c8
             try clear c9
             try clear c9b0
             try clear c10
             try clear c10b0
             try clear c11
             try clear c11b0
             try clear c14
             try clear c14b0
             try clear c14b1
             try clear c14b2
             try clear c15
             try clear c15b0
             try clear c18
             try clear hcz13_0
             try clear hcz13_1
             try clear hcz13_2
             try clear hcz17_0
             try clear hcz17_1
             try clear hcz17_2
             try clear hcz6_0
             try clear hcz6_1
             try clear hcz6_2
             try clear hcz7_0
             try clear hcz7_1
             try clear hcz7_2
             try clear hfz13_0
             try clear hfz13_1
             try clear hfz13_2
             try clear hfz17_0
             try clear hfz17_1
             try clear hfz17_2
             try clear hfz6_0
             try clear hfz6_1
             try clear hfz6_2
             try clear hfz7_0
             try clear hfz7_1
             try clear hfz7_2
             try clear hx214_0
             try clear hx215_0
             try clear hx216_0
             try clear hx217_0
             try clear p2
             try clear p214
             try clear p215
             try clear p216
             try clear p217
             try clear p6
             try clear q2
             try clear q214
             try clear q215
             try clear q216
             try clear q217
             obtain ⟨x7_4, rfl, HA, HK4, BK213, HB⟩ := hrel
             cases gk with
             | zero => exact absurd HA.out (by simp [depotkit_KeptRows.l1])
             | succ k4 =>
              have H := HA.out
              clear HA
              simp only [depotkit_KeptRows.l1] at H
              by_cases c19 : x7_4 < ((rd_L3 l0_1 x5_2).length : Int)
              ·rw [if_pos c19] at H
               have c19b0 : decide (x7_4 < ((rd_L3 l0_1 x5_2).length : Int)) = true := decide_eq_true c19
               clear c19
               by_cases c20 : 0 ≤ x7_4
               ·rw [if_pos c20] at H
                have c20b0 : decide (0 ≤ x7_4) = true := decide_eq_true c20
                clear c20
                by_cases c21 : 0 ≤ x5_2
                ·rw [if_pos c21] at H
                 have c21b0 : decide (0 ≤ x5_2) = true := decide_eq_true c21
                 clear c21
                 by_cases c22 : x5_2 < (l1.length : Int)
                 ·rw [if_pos c22] at H
                  have c22b0 : decide (x5_2 < (l1.length : Int)) = true := decide_eq_true c22
                  clear c22
                  by_cases c23 : x7_4 < ((rd_L3 l1 x5_2).length : Int)
                  ·rw [if_pos c23] at H
                   have c23b0 : decide (x7_4 < ((rd_L3 l1 x5_2).length : Int)) = true := decide_eq_true c23
                   clear c23
                   by_cases c24 : (rd (rd_L3 l0_1 x5_2) x7_4) = (rd (rd_L3 l1 x5_2) x7_4)
                   ·rw [if_pos c24] at H
                    have c24b0 : ((rd (rd_L3 l0_1 x5_2) x7_4) == (rd (rd_L3 l1 x5_2) x7_4)) = true := beq_iff_eq.mpr c24
                    have c24b1 : ((rd (rd_L3 l0_1 x5_2) x7_4) != (rd (rd_L3 l1 x5_2) x7_4)) = false := bne_eq_false_iff_eq.mpr c24
                    clear c24
                    have H' := Aside0.mk H
                    clear H
                    have p219 : 0 ≤ (x7_4 : Int) := of_decide_eq_true (by (with_reducible assumption))
                    have q219 : x7_4 < ((rd_L3 l0_1 x5_2).length : Int) := of_decide_eq_true (by (with_reducible assumption))
                    obtain ⟨ad219, e219, hx219_0⟩ := Kd.at_int HR214_0.out x7_4 p219 q219
                    cases e219
                    replace hx219_0 := (HB.out.cell (World.block_lt_of_cell? w _ hx219_0)).trans hx219_0
                    replace p219 := eq_true p219
                    replace q219 := eq_true q219
                    have p220 : 0 ≤ (x5_2 : Int) := of_decide_eq_true (by (with_reducible assumption))
                    have q220 : x5_2 < (l1.length : Int) := of_decide_eq_true (by (with_reducible assumption))
                    obtain ⟨ad220, A220_0, c220_0, e220, hx220_0, hl220_0, hi220_0⟩ := at_L3 HR1.out x5_2 p220 q220
                    cases e220
                    replace hx220_0 := (HB.out.cell (World.block_lt_of_cell? w _ hx220_0)).trans hx220_0
                    have HR220_0 := Aside0.mk hi220_0
                    have HC220_0 := Aside0.mk hl220_0
                    clear hi220_0 hl220_0
                    replace p220 := eq_true p220
                    replace q220 := eq_true q220
                    have p221 : 0 ≤ (x7_4 : Int) := of_decide_eq_true (by (with_reducible assumption))
                    have q221 : x7_4 < ((rd_L3 l1 x5_2).length : Int) := of_decide_eq_true (by (with_reducible assumption))
                    obtain ⟨ad221, e221, hx221_0⟩ := Kd.at_int HR220_0.out x7_4 p221 q221
                    cases e221
                    replace hx221_0 := (HB.out.cell (World.block_lt_of_cell? w _ hx221_0)).trans hx221_0
                    replace p221 := eq_true p221
                    replace q221 := eq_true q221
                    go_wp2
                    repeat (go_quiet (fail); try go_wp2)
                    go_roundg k4
                    case measure => have := HJ2.out; have := HK2.out; have := HJ11.out; have := HK4.out; omega
                    case rel => exact ⟨(wrap64 (x7_4 + 1)), (by rfl), H', ⟨by have := HJ2.out; have := HK2.out; have := HJ11.out; have := HK4.out; omega⟩, ⟨by (with_reducible repeat (refine blk_drewN ?_ _)); exact BK213.out⟩, ⟨by repeat ((with_reducible first | exact HB.out | apply pw_below_drewN))⟩⟩
                   ·rw [if_neg c24] at H
                    have c24b0 : ((rd (rd_L3 l0_1 x5_2) x7_4) == (rd (rd_L3 l1 x5_2) x7_4)) = false := beq_eq_false_iff_ne.mpr c24
                    have c24b1 : ((rd (rd_L3 l0_1 x5_2) x7_4) != (rd (rd_L3 l1 x5_2) x7_4)) = true := bne_iff_ne.mpr c24
                    obtain rfl := Option.some.inj H
                    have p219 : 0 ≤ (x7_4 : Int) := of_decide_eq_true (by (with_reducible assumption))
                    have q219 : x7_4 < ((rd_L3 l0_1 x5_2).length : Int) := of_decide_eq_true (by (with_reducible assumption))
                    obtain ⟨ad219, e219, hx219_0⟩ := Kd.at_int HR214_0.out x7_4 p219 q219
                    cases e219
                    replace hx219_0 := (HB.out.cell (World.block_lt_of_cell? w _ hx219_0)).trans hx219_0
                    replace p219 := eq_true p219
                    replace q219 := eq_true q219
                    have p220 : 0 ≤ (x5_2 : Int) := of_decide_eq_true (by (with_reducible assumption))
                    have q220 : x5_2 < (l1.length : Int) := of_decide_eq_true (by (with_reducible assumption))
                    obtain ⟨ad220, A220_0, c220_0, e220, hx220_0, hl220_0, hi220_0⟩ := at_L3 HR1.out x5_2 p220 q220
                    cases e220
                    replace hx220_0 := (HB.out.cell (World.block_lt_of_cell? w _ hx220_0)).trans hx220_0
                    have HR220_0 := Aside0.mk hi220_0
                    have HC220_0 := Aside0.mk hl220_0
                    clear hi220_0 hl220_0
                    replace p220 := eq_true p220
                    replace q220 := eq_true q220
                    have p221 : 0 ≤ (x7_4 : Int) := of_decide_eq_true (by (with_reducible assumption))
                    have q221 : x7_4 < ((rd_L3 l1 x5_2).length : Int) := of_decide_eq_true (by (with_reducible assumption))
                    obtain ⟨ad221, e221, hx221_0⟩ := Kd.at_int HR220_0.out x7_4 p221 q221
                    cases e221
                    replace hx221_0 := (HB.out.cell (World.block_lt_of_cell? w _ hx221_0)).trans hx221_0
                    replace p221 := eq_true p221
                    replace q221 := eq_true q221
                    go_wp2
                    repeat (go_quiet (fail); try go_wp2)
                    go_ret
                    exact ⟨by rfl, by repeat ((with_reducible first | exact HB.out | apply pw_below_drewN))⟩
                  ·rw [if_neg c23] at H
                   exact absurd H (by simp)
                 ·rw [if_neg c22] at H
                  exact absurd H (by simp)
                ·rw [if_neg c21] at H
                 exact absurd H (by simp)
               ·rw [if_neg c20] at H
                exact absurd H (by simp)
              ·rw [if_neg c19] at H
               have c19b0 : decide (x7_4 < ((rd_L3 l0_1 x5_2).length : Int)) = false := decide_eq_false c19
               clear c19
               have H' := Aside0.mk H
               clear H
               go_wp2
               go_roundg k4
               case measure => have := HJ2.out; have := HK2.out; have := HJ11.out; have := HK4.out; omega
               case rel => exact ⟨(wrap64 (x5_2 + 1)), (by rfl), H', ⟨by have := HJ2.out; have := HK2.out; have := HJ11.out; have := HK4.out; omega⟩, ⟨by (with_reducible repeat (fail)); exact BK213.out⟩, ⟨by repeat ((with_reducible exact HB.out))⟩⟩
        ·rw [if_neg c11] at H
         exact absurd H (by simp)
       ·rw [if_neg c10] at H
        exact absurd H (by simp)
      ·rw [if_neg c9] at H
       have c9b0 : decide (x5_2 < (l1.length : Int)) = false := decide_eq_false c9
       clear c9
       have H' := Aside0.mk H
       clear H
       go_wp2
       go_loopg [8] k2 (fun kq v8 w' => ∃ (x8_3 : Int), v8 = .int .i64 x8_3 ∧ Aside0 (depotkit_KeptRows.l2 kq l1 x8_3 l0_0 l0_1 l0_2 = some r) ∧ Aside0 (kq ≤ k2) ∧ Aside0 (w'.heap[gb213]? = some (.cells #[(.slice A0_0 l0_0.length c0_0), (.slice A0_1 l0_1.length c0_1), (.slice A0_2 l0_2.length c0_2)] 29 (0, 0))) ∧ Aside0 (Below w.heap.size w w'))
       case atStart => exact ⟨(0), (by rfl), H', ⟨Nat.le_refl _⟩, ⟨by (with_reducible repeat (fail)); exact BK213.out⟩, ⟨by repeat ((with_reducible exact HB.out))⟩⟩
       case round =>
        clear H'
        try clear c1
        try clear c2
        try clear p2
        try clear q2
        try clear hx2
        try clear c5
        try clear c5b0
        try clear c5b1
        try clear p6
        try clear c7
        try clear c8
        try clear c9
        try clear c9b0
        try clear c10
        try clear c10b0
        try clear c11
        try clear c11b0
        try clear c14
        try clear c14b0
        try clear c14b1
        try clear c14b2
        try clear c15
        try clear c15b0
        try clear c18
        try clear c19
        try clear c19b0
        try clear c20
        try clear c20b0
        try clear c21
        try clear c21b0
        try clear p21
        try clear q21
        try clear hx21
        try clear c22
        try clear c22b0
        try clear p22
        try clear q22
        try clear hx22
        try clear c23
        try clear c23b0
        try clear c24
        try clear c24b0
        try clear c24b1
        try clear hcz13_0
        try clear hcz13_1
        try clear hcz13_2
        try clear hcz17_0
        try clear hcz17_1
        try clear hcz17_2
        try clear hcz6_0
        try clear hcz6_1
        try clear hcz6_2
        try clear hcz7_0
        try clear hcz7_1
        try clear hcz7_2
        try clear hfz13_0
        try clear hfz13_1
        try clear hfz13_2
        try clear hfz17_0
        try clear hfz17_1
        try clear hfz17_2
        try clear hfz6_0
        try clear hfz6_1
        try clear hfz6_2
        try clear hfz7_0
        try clear hfz7_1
        try clear hfz7_2
        try clear hx214_0
        try clear hx215_0
        try clear hx216_0
        try clear hx217_0
        try clear hx219_0
        try clear hx220_0
        try clear hx221_0
        try clear p2
        try clear p214
        try clear p215
        try clear p216
        try clear p217
        try clear p219
        try clear p220
        try clear p221
        try clear p6
        try clear q2
        try clear q214
        try clear q215
        try clear q216
        try clear q217
        try clear q219
        try clear q220
        try clear q221
        obtain ⟨x8_3, rfl, HA, HK3, BK213, HB⟩ := hrel
        cases gk with
        | zero => exact absurd HA.out (by simp [depotkit_KeptRows.l2])
        | succ k3 =>
         have H := HA.out
         clear HA
         simp only [depotkit_KeptRows.l2] at H
         by_cases c25 : x8_3 < 64
         ·rw [if_pos c25] at H
          have c25b0 : decide (x8_3 < 64) = true := decide_eq_true c25
          clear c25
          obtain ⟨ji26, hji26⟩ : ∃ j_ : Int, (wrap64 ((l1.length : Int) + x8_3)) = j_ := ⟨_, rfl⟩
          replace H : (if 0 ≤ (ji26) then (if (ji26) < (l0_1.length : Int) then (if ((rd_L3 l0_1 (ji26)).length : Int) = 1 then (if 0 < ((rd_L3 l0_1 (ji26)).length : Int) then ((depotkit_mark.f 1 x8_3).bind fun t224 => (if (rd (rd_L3 l0_1 (ji26)) 0) = t224 then (depotkit_KeptRows.l2 k3 l1 (wrap64 (x8_3 + 1)) l0_0 l0_1 l0_2) else (some false))) else (none)) else (some false)) else (none)) else (none)) = some r := by ((rw [hji26] at H; exact H))
          have hji26w : (IntKind.i64.wrap ((l1.length : Int) + x8_3)) = ji26 := (i64_w _).trans hji26
          by_cases c27 : 0 ≤ (ji26)
          ·rw [if_pos c27] at H
           have c27b0 : decide (0 ≤ (ji26)) = true := decide_eq_true c27
           clear c27
           by_cases c28 : (ji26) < (l0_1.length : Int)
           ·rw [if_pos c28] at H
            have c28b0 : decide ((ji26) < (l0_1.length : Int)) = true := decide_eq_true c28
            clear c28
            by_cases c29 : ((rd_L3 l0_1 (ji26)).length : Int) = 1
            ·rw [if_pos c29] at H
             have c29b0 : (((rd_L3 l0_1 (ji26)).length : Int) == 1) = true := beq_iff_eq.mpr c29
             have c29b1 : (((rd_L3 l0_1 (ji26)).length : Int) != 1) = false := bne_eq_false_iff_eq.mpr c29
             clear c29
             by_cases c30 : 0 < ((rd_L3 l0_1 (ji26)).length : Int)
             ·rw [if_pos c30] at H
              have c30b0 : decide (0 < ((rd_L3 l0_1 (ji26)).length : Int)) = true := decide_eq_true c30
              have c30b1 : decide (0 < (rd_L3 l0_1 (ji26)).length) = true := decide_eq_true (by omega)
              clear c30
              replace H := Option.bind_eq_some_iff.mp H
              obtain ⟨t224, A310, H⟩ := H
              replace H : (if (rd (rd_L3 l0_1 (ji26)) 0) = t224 then (depotkit_KeptRows.l2 k3 l1 (wrap64 (x8_3 + 1)) l0_0 l0_1 l0_2) else (some false)) = some r := H
              have A31 := Aside0.mk A310
              clear A310
              by_cases c32 : (rd (rd_L3 l0_1 (ji26)) 0) = t224
              ·rw [if_pos c32] at H
               have c32b0 : ((rd (rd_L3 l0_1 (ji26)) 0) == t224) = true := beq_iff_eq.mpr c32
               have c32b1 : ((rd (rd_L3 l0_1 (ji26)) 0) != t224) = false := bne_eq_false_iff_eq.mpr c32
               clear c32
               have H' := Aside0.mk H
               clear H
               have hcz33_0 : wr.cell? ⟨gb213, 0, none⟩ = some (.slice A0_0 l0_0.length c0_0) := (blk_cell BK213.out 0).trans rfl
               have hcz33_1 : wr.cell? ⟨gb213, 1, none⟩ = some (.slice A0_1 l0_1.length c0_1) := (blk_cell BK213.out 1).trans rfl
               have hcz33_2 : wr.cell? ⟨gb213, 2, none⟩ = some (.slice A0_2 l0_2.length c0_2) := (blk_cell BK213.out 2).trans rfl
               have hfz33_0 := blk_frozen BK213.out 0
               have hfz33_1 := blk_frozen BK213.out 1
               have hfz33_2 := blk_frozen BK213.out 2
               have p222 : 0 ≤ ((ji26) : Int) := of_decide_eq_true (by (with_reducible assumption))
               have q222 : (ji26) < (l0_1.length : Int) := of_decide_eq_true (by (with_reducible assumption))
               obtain ⟨ad222, A222_0, c222_0, e222, hx222_0, hl222_0, hi222_0⟩ := at_L3 HR0_1.out (ji26) p222 q222
               cases e222
               replace hx222_0 := (HB.out.cell (World.block_lt_of_cell? w _ hx222_0)).trans hx222_0
               have HR222_0 := Aside0.mk hi222_0
               have HC222_0 := Aside0.mk hl222_0
               clear hi222_0 hl222_0
               replace p222 := eq_true p222
               replace q222 := eq_true q222
               have p223 : 0 ≤ (0 : Int) := (by omega)
               have q223 : 0 < ((rd_L3 l0_1 (ji26)).length : Int) := of_decide_eq_true (by (with_reducible assumption))
               obtain ⟨ad223, e223, hx223_0⟩ := Kd.at_int HR222_0.out 0 p223 q223
               cases e223
               have qi223 : (0 < (rd_L3 l0_1 (ji26)).length) = True := eq_true (by omega)
               (try rw [show ((0 : Int)).toNat = 0 from rfl] at hx223_0)
               (try rw [Addr.add_zero'] at hx223_0)
               replace hx223_0 := (HB.out.cell (World.block_lt_of_cell? w _ hx223_0)).trans hx223_0
               replace p223 := eq_true p223
               replace q223 := eq_true q223
               go_wp2_with (fail)
               repeat (go_quiet (((go_at_call 18; (with_reducible refine (depotkit_mark.calls 1 x8_3 t224 _ A31.out).mono ?_); rintro e w' ⟨rfl, ⟨nd, rfl⟩⟩; (try exact ⟨rfl, _, World.drewN_drewN _ _ _⟩)))); try go_wp2_with (fail))
               go_roundg k3
               case measure => have := HJ2.out; have := HK2.out; have := HK3.out; omega
               case rel => exact ⟨(wrap64 (x8_3 + 1)), (by rfl), H', ⟨by have := HJ2.out; have := HK2.out; have := HK3.out; omega⟩, ⟨by (with_reducible repeat (refine blk_drewN ?_ _)); exact BK213.out⟩, ⟨by repeat ((with_reducible first | exact HB.out | apply pw_below_drewN))⟩⟩
              ·rw [if_neg c32] at H
               have c32b0 : ((rd (rd_L3 l0_1 (ji26)) 0) == t224) = false := beq_eq_false_iff_ne.mpr c32
               have c32b1 : ((rd (rd_L3 l0_1 (ji26)) 0) != t224) = true := bne_iff_ne.mpr c32
               obtain rfl := Option.some.inj H
               have hcz34_0 : wr.cell? ⟨gb213, 0, none⟩ = some (.slice A0_0 l0_0.length c0_0) := (blk_cell BK213.out 0).trans rfl
               have hcz34_1 : wr.cell? ⟨gb213, 1, none⟩ = some (.slice A0_1 l0_1.length c0_1) := (blk_cell BK213.out 1).trans rfl
               have hcz34_2 : wr.cell? ⟨gb213, 2, none⟩ = some (.slice A0_2 l0_2.length c0_2) := (blk_cell BK213.out 2).trans rfl
               have hfz34_0 := blk_frozen BK213.out 0
               have hfz34_1 := blk_frozen BK213.out 1
               have hfz34_2 := blk_frozen BK213.out 2
               have p222 : 0 ≤ ((ji26) : Int) := of_decide_eq_true (by (with_reducible assumption))
               have q222 : (ji26) < (l0_1.length : Int) := of_decide_eq_true (by (with_reducible assumption))
               obtain ⟨ad222, A222_0, c222_0, e222, hx222_0, hl222_0, hi222_0⟩ := at_L3 HR0_1.out (ji26) p222 q222
               cases e222
               replace hx222_0 := (HB.out.cell (World.block_lt_of_cell? w _ hx222_0)).trans hx222_0
               have HR222_0 := Aside0.mk hi222_0
               have HC222_0 := Aside0.mk hl222_0
               clear hi222_0 hl222_0
               replace p222 := eq_true p222
               replace q222 := eq_true q222
               have p223 : 0 ≤ (0 : Int) := (by omega)
               have q223 : 0 < ((rd_L3 l0_1 (ji26)).length : Int) := of_decide_eq_true (by (with_reducible assumption))
               obtain ⟨ad223, e223, hx223_0⟩ := Kd.at_int HR222_0.out 0 p223 q223
               cases e223
               have qi223 : (0 < (rd_L3 l0_1 (ji26)).length) = True := eq_true (by omega)
               (try rw [show ((0 : Int)).toNat = 0 from rfl] at hx223_0)
               (try rw [Addr.add_zero'] at hx223_0)
               replace hx223_0 := (HB.out.cell (World.block_lt_of_cell? w _ hx223_0)).trans hx223_0
               replace p223 := eq_true p223
               replace q223 := eq_true q223
               go_wp2_with (fail)
               repeat (go_quiet (((go_at_call 18; (with_reducible refine (depotkit_mark.calls 1 x8_3 t224 _ A31.out).mono ?_); rintro e w' ⟨rfl, ⟨nd, rfl⟩⟩; (try exact ⟨rfl, _, World.drewN_drewN _ _ _⟩)))); try go_wp2_with (fail))
               go_ret
               exact ⟨by rfl, by repeat ((with_reducible first | exact HB.out | apply pw_below_drewN))⟩
             ·rw [if_neg c30] at H
              exact absurd H (by simp)
            ·rw [if_neg c29] at H
             have c29b0 : (((rd_L3 l0_1 (ji26)).length : Int) == 1) = false := beq_eq_false_iff_ne.mpr c29
             have c29b1 : (((rd_L3 l0_1 (ji26)).length : Int) != 1) = true := bne_iff_ne.mpr c29
             obtain rfl := Option.some.inj H
             have hcz35_0 : wr.cell? ⟨gb213, 0, none⟩ = some (.slice A0_0 l0_0.length c0_0) := (blk_cell BK213.out 0).trans rfl
             have hcz35_1 : wr.cell? ⟨gb213, 1, none⟩ = some (.slice A0_1 l0_1.length c0_1) := (blk_cell BK213.out 1).trans rfl
             have hcz35_2 : wr.cell? ⟨gb213, 2, none⟩ = some (.slice A0_2 l0_2.length c0_2) := (blk_cell BK213.out 2).trans rfl
             have hfz35_0 := blk_frozen BK213.out 0
             have hfz35_1 := blk_frozen BK213.out 1
             have hfz35_2 := blk_frozen BK213.out 2
             have p222 : 0 ≤ ((ji26) : Int) := of_decide_eq_true (by (with_reducible assumption))
             have q222 : (ji26) < (l0_1.length : Int) := of_decide_eq_true (by (with_reducible assumption))
             obtain ⟨ad222, A222_0, c222_0, e222, hx222_0, hl222_0, hi222_0⟩ := at_L3 HR0_1.out (ji26) p222 q222
             cases e222
             replace hx222_0 := (HB.out.cell (World.block_lt_of_cell? w _ hx222_0)).trans hx222_0
             have HR222_0 := Aside0.mk hi222_0
             have HC222_0 := Aside0.mk hl222_0
             clear hi222_0 hl222_0
             replace p222 := eq_true p222
             replace q222 := eq_true q222
             go_wp2
             repeat (go_quiet (fail); try go_wp2)
             go_ret
             exact ⟨by rfl, by repeat ((with_reducible first | exact HB.out | apply pw_below_drewN))⟩
           ·rw [if_neg c28] at H
            exact absurd H (by simp)
          ·rw [if_neg c27] at H
           exact absurd H (by simp)
         ·rw [if_neg c25] at H
          have c25b0 : decide (x8_3 < 64) = false := decide_eq_false c25
          clear c25
          obtain rfl := Option.some.inj H
          go_wp2
          go_ret
          exact ⟨by rfl, by repeat ((with_reducible exact HB.out))⟩

end Go.Proofs.YtlhajfepcggjaaaGreatDoor.R
