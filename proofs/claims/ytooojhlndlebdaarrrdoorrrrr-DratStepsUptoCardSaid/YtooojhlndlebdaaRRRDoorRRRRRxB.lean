/- Lean functions of the Go functions that the laws of this seat reach, and the proof that each call comes to them: written by a program of this session (wip/printx.sh) over the kit's print. No conditions. The pure law of drat's readers: what the program's reading comes to is what the reference's Parse comes to. No conditions. -/
import Derived.Test.YtooojhlndlebdaaRRRDoorRRRRRx0
import Derived.Test.YtooojhlndlebdaaRRRDoorRRRRRxA
import Derived.Test.YtooojhlndlebdaaRRRDoorRRRRTextR
section
namespace Go.Proofs.YtooojhlndlebdaaRRRDoorRRRR.R
open Go.RowKit Go.Proofs.YtooojhlndlebdaaRRRDoorRRRRW.PrintWords Go.Proofs.YtooojhlndlebdaaRRRDoorRRRRW.PrintLast Go.Proofs.YtooojhlndlebdaaRRRDoorRRRRW.PrintMore
attribute [local go_sem] max2_int min2_int max_two min_two max_three min_three max_four min_four   -- for this text's walks alone
set_option linter.unusedVariables false
set_option linter.unusedSimpArgs false

/-! ### depotref09_Parse: function 31 -/
mutual
def depotref09_Parse.l0 : Nat → List (S33) → List ByteArray → Bool → Int → Bool → List Int → Option ((List (S33)) × Int)
  | 0, _, _, _, _, _, _ => none
  | k + 1, x4, x5, x6, x8, x124000, x124001 => if x8 < (x5.length : Int) then (if 0 ≤ x8 then (if ((rdOf ByteArray.empty x5 x8).size : Int) > 0 then (if 0 < ((rdOf ByteArray.empty x5 x8).size : Int) then (depotref09_Parse.j1 k x4 x5 x6 x8 ((bt (rdOf ByteArray.empty x5 x8) 0) == 99) x124000 x124001) else (none)) else (depotref09_Parse.j1 k x4 x5 x6 x8 false x124000 x124001)) else (none)) else (if x6 = true then (some (x4, wrap64 ((x5.length : Int) + 1))) else (some (x4, 0)))
def depotref09_Parse.j1 : Nat → List (S33) → List ByteArray → Bool → Int → Bool → Bool → List Int → Option ((List (S33)) × Int)
  | 0, _, _, _, _, _, _, _ => none
  | k + 1, x4, x5, x6, x8, x34, x124000, x124001 => if x34 = true then (if 0 ≤ x8 then (if x8 < (x5.length : Int) then ((depotref09_remark.f k (rdOf ByteArray.empty x5 x8)).bind fun t127 => (if t127 = true then (depotref09_Parse.l0 k x4 x5 x6 (wrap64 (x8 + 1)) x124000 x124001) else (some (x4, wrap64 (x8 + 1))))) else (none)) else (none)) else (if 0 ≤ x8 then (if x8 < (x5.length : Int) then ((depotref03_Words.f k (rdOf ByteArray.empty x5 x8)).bind fun t129 => (depotref09_Parse.l1 k x4 x5 x6 x8 t129 0 x124000 x124001)) else (none)) else (none))
def depotref09_Parse.l1 : Nat → List (S33) → List ByteArray → Bool → Int → List ByteArray → Int → Bool → List Int → Option ((List (S33)) × Int)
  | 0, _, _, _, _, _, _, _, _ => none
  | k + 1, x4, x5, x6, x8, x9, x10, x124000, x124001 => if x10 < (x9.length : Int) then (if 0 ≤ x10 then (if (rdOf ByteArray.empty x9 x10).toList = ([100] : List UInt8) then (depotref09_Parse.j3 k x4 x5 x8 x9 x10 (rdOf ByteArray.empty x9 x10) (!x6) x124000 x124001) else (depotref09_Parse.j3 k x4 x5 x8 x9 x10 (rdOf ByteArray.empty x9 x10) false x124000 x124001)) else (none)) else (depotref09_Parse.l0 k x4 x5 x6 (wrap64 (x8 + 1)) x124000 x124001)
def depotref09_Parse.j3 : Nat → List (S33) → List ByteArray → Int → List ByteArray → Int → ByteArray → Bool → Bool → List Int → Option ((List (S33)) × Int)
  | 0, _, _, _, _, _, _, _, _, _ => none
  | k + 1, x4, x5, x8, x9, x10, x11, x62, x124000, x124001 => if x62 = true then (depotref09_Parse.l1 k x4 x5 true x8 x9 (wrap64 (x10 + 1)) true x124001) else (if x11.toList = ([48] : List UInt8) then (if x4.length < 4398046511104 then (depotref09_Parse.l1 k (x4 ++ [(⟨x124000, x124001⟩ : S33)]) x5 false x8 x9 (wrap64 (x10 + 1)) false ([] : List Int)) else (none)) else ((depotref09_literal.f k x11).bind fun t136 => (if t136 = true then ((depotref03_Value.f x11).bind fun t137 => (if x124001.length < 17592186044416 then (depotref09_Parse.l1 k x4 x5 true x8 x9 (wrap64 (x10 + 1)) x124000 (x124001 ++ [t137])) else (none))) else (some (x4, wrap64 (x8 + 1))))))
end
def depotref09_Parse.f (k : Nat) (a0 : ByteArray) : Option ((List (S33)) × Int) := (depotref03_Lines.f k a0).bind fun t120 => (depotref09_Parse.l0 k ([] : List (S33)) t120 false 0 false ([] : List Int))
theorem depotref09_Parse.mono_l : ∀ k, (∀ y0 y1 y2 y3 y4 y5, LeO (depotref09_Parse.l0 k y0 y1 y2 y3 y4 y5) (depotref09_Parse.l0 (k + 1) y0 y1 y2 y3 y4 y5)) ∧ (∀ y0 y1 y2 y3 y4 y5 y6, LeO (depotref09_Parse.j1 k y0 y1 y2 y3 y4 y5 y6) (depotref09_Parse.j1 (k + 1) y0 y1 y2 y3 y4 y5 y6)) ∧ (∀ y0 y1 y2 y3 y4 y5 y6 y7, LeO (depotref09_Parse.l1 k y0 y1 y2 y3 y4 y5 y6 y7) (depotref09_Parse.l1 (k + 1) y0 y1 y2 y3 y4 y5 y6 y7)) ∧ (∀ y0 y1 y2 y3 y4 y5 y6 y7 y8, LeO (depotref09_Parse.j3 k y0 y1 y2 y3 y4 y5 y6 y7 y8) (depotref09_Parse.j3 (k + 1) y0 y1 y2 y3 y4 y5 y6 y7 y8))
  | 0 => ⟨fun _ _ _ _ _ _ r h => by simp [depotref09_Parse.l0] at h, fun _ _ _ _ _ _ _ r h => by simp [depotref09_Parse.j1] at h, fun _ _ _ _ _ _ _ _ r h => by simp [depotref09_Parse.l1] at h, fun _ _ _ _ _ _ _ _ _ r h => by simp [depotref09_Parse.j3] at h⟩
  | k + 1 => by
    obtain ⟨ih0, ih1, ih2, ih3⟩ := depotref09_Parse.mono_l k
    refine ⟨?_, ?_, ?_, ?_⟩
    · intro y0 y1 y2 y3 y4 y5
      unfold depotref09_Parse.l0
      repeat' first
      | (with_reducible exact ih0 _ _ _ _ _ _)
      | (with_reducible exact ih1 _ _ _ _ _ _ _)
      | (with_reducible exact ih2 _ _ _ _ _ _ _ _)
      | (with_reducible exact ih3 _ _ _ _ _ _ _ _ _)
      | (with_reducible exact depotref03_Lines.mono _ _)
      | (with_reducible exact depotref03_Words.mono _ _)
      | (with_reducible exact depotref09_literal.mono _ _)
      | (with_reducible exact depotref09_remark.mono _ _)
      | (with_reducible exact LeO.refl _)
      | (with_reducible exact LeO.none _)
      | (with_reducible refine LeO.ite ?_ ?_)
      | (with_reducible refine LeO.bind ?_ (fun _ => ?_))
      | exact ih0 _ _ _ _ _ _
      | exact ih1 _ _ _ _ _ _ _
      | exact ih2 _ _ _ _ _ _ _ _
      | exact ih3 _ _ _ _ _ _ _ _ _
      | exact depotref03_Lines.mono _ _
      | exact depotref03_Words.mono _ _
      | exact depotref09_literal.mono _ _
      | exact depotref09_remark.mono _ _
      | exact LeO.none _
      | refine LeO.ite ?_ ?_
      | refine LeO.bind ?_ (fun _ => ?_)
    · intro y0 y1 y2 y3 y4 y5 y6
      unfold depotref09_Parse.j1
      repeat' first
      | (with_reducible exact ih0 _ _ _ _ _ _)
      | (with_reducible exact ih1 _ _ _ _ _ _ _)
      | (with_reducible exact ih2 _ _ _ _ _ _ _ _)
      | (with_reducible exact ih3 _ _ _ _ _ _ _ _ _)
      | (with_reducible exact depotref03_Lines.mono _ _)
      | (with_reducible exact depotref03_Words.mono _ _)
      | (with_reducible exact depotref09_literal.mono _ _)
      | (with_reducible exact depotref09_remark.mono _ _)
      | (with_reducible exact LeO.refl _)
      | (with_reducible exact LeO.none _)
      | (with_reducible refine LeO.ite ?_ ?_)
      | (with_reducible refine LeO.bind ?_ (fun _ => ?_))
      | exact ih0 _ _ _ _ _ _
      | exact ih1 _ _ _ _ _ _ _
      | exact ih2 _ _ _ _ _ _ _ _
      | exact ih3 _ _ _ _ _ _ _ _ _
      | exact depotref03_Lines.mono _ _
      | exact depotref03_Words.mono _ _
      | exact depotref09_literal.mono _ _
      | exact depotref09_remark.mono _ _
      | exact LeO.none _
      | refine LeO.ite ?_ ?_
      | refine LeO.bind ?_ (fun _ => ?_)
    · intro y0 y1 y2 y3 y4 y5 y6 y7
      unfold depotref09_Parse.l1
      repeat' first
      | (with_reducible exact ih0 _ _ _ _ _ _)
      | (with_reducible exact ih1 _ _ _ _ _ _ _)
      | (with_reducible exact ih2 _ _ _ _ _ _ _ _)
      | (with_reducible exact ih3 _ _ _ _ _ _ _ _ _)
      | (with_reducible exact depotref03_Lines.mono _ _)
      | (with_reducible exact depotref03_Words.mono _ _)
      | (with_reducible exact depotref09_literal.mono _ _)
      | (with_reducible exact depotref09_remark.mono _ _)
      | (with_reducible exact LeO.refl _)
      | (with_reducible exact LeO.none _)
      | (with_reducible refine LeO.ite ?_ ?_)
      | (with_reducible refine LeO.bind ?_ (fun _ => ?_))
      | exact ih0 _ _ _ _ _ _
      | exact ih1 _ _ _ _ _ _ _
      | exact ih2 _ _ _ _ _ _ _ _
      | exact ih3 _ _ _ _ _ _ _ _ _
      | exact depotref03_Lines.mono _ _
      | exact depotref03_Words.mono _ _
      | exact depotref09_literal.mono _ _
      | exact depotref09_remark.mono _ _
      | exact LeO.none _
      | refine LeO.ite ?_ ?_
      | refine LeO.bind ?_ (fun _ => ?_)
    · intro y0 y1 y2 y3 y4 y5 y6 y7 y8
      unfold depotref09_Parse.j3
      repeat' first
      | (with_reducible exact ih0 _ _ _ _ _ _)
      | (with_reducible exact ih1 _ _ _ _ _ _ _)
      | (with_reducible exact ih2 _ _ _ _ _ _ _ _)
      | (with_reducible exact ih3 _ _ _ _ _ _ _ _ _)
      | (with_reducible exact depotref03_Lines.mono _ _)
      | (with_reducible exact depotref03_Words.mono _ _)
      | (with_reducible exact depotref09_literal.mono _ _)
      | (with_reducible exact depotref09_remark.mono _ _)
      | (with_reducible exact LeO.refl _)
      | (with_reducible exact LeO.none _)
      | (with_reducible refine LeO.ite ?_ ?_)
      | (with_reducible refine LeO.bind ?_ (fun _ => ?_))
      | exact ih0 _ _ _ _ _ _
      | exact ih1 _ _ _ _ _ _ _
      | exact ih2 _ _ _ _ _ _ _ _
      | exact ih3 _ _ _ _ _ _ _ _ _
      | exact depotref03_Lines.mono _ _
      | exact depotref03_Words.mono _ _
      | exact depotref09_literal.mono _ _
      | exact depotref09_remark.mono _ _
      | exact LeO.none _
      | refine LeO.ite ?_ ?_
      | refine LeO.bind ?_ (fun _ => ?_)
theorem depotref09_Parse.mono : ∀ a0 k, LeO (depotref09_Parse.f k a0) (depotref09_Parse.f (k + 1) a0) := by
  intro a0 k
  obtain ⟨ih0, ih1, ih2, ih3⟩ := depotref09_Parse.mono_l k
  unfold depotref09_Parse.f
  repeat' first
      | (with_reducible exact ih0 _ _ _ _ _ _)
      | (with_reducible exact ih1 _ _ _ _ _ _ _)
      | (with_reducible exact ih2 _ _ _ _ _ _ _ _)
      | (with_reducible exact ih3 _ _ _ _ _ _ _ _ _)
      | (with_reducible exact depotref03_Lines.mono _ _)
      | (with_reducible exact depotref03_Words.mono _ _)
      | (with_reducible exact depotref09_literal.mono _ _)
      | (with_reducible exact depotref09_remark.mono _ _)
      | (with_reducible exact LeO.refl _)
      | (with_reducible exact LeO.none _)
      | (with_reducible refine LeO.ite ?_ ?_)
      | (with_reducible refine LeO.bind ?_ (fun _ => ?_))
      | exact ih0 _ _ _ _ _ _
      | exact ih1 _ _ _ _ _ _ _
      | exact ih2 _ _ _ _ _ _ _ _
      | exact ih3 _ _ _ _ _ _ _ _ _
      | exact depotref03_Lines.mono _ _
      | exact depotref03_Words.mono _ _
      | exact depotref09_literal.mono _ _
      | exact depotref09_remark.mono _ _
      | exact LeO.none _
      | refine LeO.ite ?_ ?_
      | refine LeO.bind ?_ (fun _ => ?_)
def depotref09_Parse.T25 : Bool × List (List Nat × List Nat) := (true, [([], []), ([0], [0]), ([], []), ([2], [2]), ([3], [3]), ([1, 4, 3], [1, 4]), ([0, 1, 2, 3, 4, 5], []), ([6, 5, 5, 0, 1, 2, 3, 4, 5], [5, 6])])
def depotref09_Parse.B25 : List Nat := [0, 1, 0, 4, 12, 31, 63, 127]
theorem depotref09_Parse.tab25 : rtab .any (opsOf Tryd.f31 25) = depotref09_Parse.T25 := by kernel_rfl
theorem depotref09_Parse.bits25 : waitsOk depotref09_Parse.T25.2 depotref09_Parse.B25 = true := by kernel_rfl
set_option maxHeartbeats 8000000 in
set_option maxRecDepth 100000 in
theorem depotref09_Parse.calls (k : Nat) (a0 : ByteArray) (r1 : List (S33)) (r2 : Int) (w : World) (hE : Env w) (h : depotref09_Parse.f k a0 = some (r1, r2)) :
    Calls Tryd.prog 31 #[.string a0] w fun e w' => ∃ v0_ : Value, e = .returned (.tuple #[v0_, .int .i64 r2]) ∧ Kd.S k33 33 w' w.heap.size (fun _ => True) v0_ r1 ∧ Below w.heap.size w w' := by
  have hu33 := Tryd.underlying33
  have HB := Aside0.mk (Below.refl w.heap.size w)
  have HE := Aside0.mk hE
  clear hE
  have H : ((depotref03_Lines.f k a0).bind fun t120 => (depotref09_Parse.l0 k ([] : List (S33)) t120 false 0 false ([] : List Int))) = some (r1, r2) := h
  clear h
  replace H := Option.bind_eq_some_iff.mp H
  obtain ⟨t120, A20, H⟩ := H
  replace H : (depotref09_Parse.l0 k ([] : List (S33)) t120 false 0 false ([] : List Int)) = some (r1, r2) := H
  have A2 := Aside0.mk A20
  clear A20
  have H' := Aside0.mk H
  clear H
  go_enter Tryd.func31, Tryd.ntmps31
  go_wp2_with (first | ((with_reducible refine gate_callee (f := 43) rfl ?_); refine goesL_ (some 13) rfl rfl Tryd.func43 (by kernel_rfl) rfl #[.string a0] rfl (by (try simp only [List.map_toArray, List.map_cons, List.map_nil]); first | done | rfl | (simp only [List.length_drop, List.length_take]; rfl)) ?_; (with_reducible refine (depotref03_Lines.calls k a0 t120 _ A2.out).mono ?_); rintro e w3 ⟨v121, rfl, ho0, hb⟩; refine ⟨_, rfl, ?_⟩; have n0_ := Aside0.mk (Kd.R_lower ho0 (below_size (by repeat (first | (with_reducible first | exact HB.out | apply below_alloc | apply pw_below_drewN | apply below_drew1) | exact HB.out)))); have n1_ := Aside0.mk (below_step (by repeat (first | (with_reducible first | exact HB.out | apply below_alloc | apply pw_below_drewN | apply below_drew1) | exact HB.out)) hb); clear HB; have HO122 := n0_; have HB := n1_; clear n0_ n1_; (try clear hb); (try clear hb2); (try clear hk); (try clear hi); (try clear ho0)) | ((with_reducible refine gate_dst (N := 7) rfl ?_); refine box_event ?hg (N := 7) ?hd (cs := #[.bool false, .slice none 0 0]) (t := 33) ?hr ?_; (case hd => rfl); (case hg => rfl); (case hr => first | (go_simp; done) | (go_simp; rfl)); intro gb123 hg w4 hbox hb; have n0_ := Aside0.mk (Kd.R_below (by (with_reducible repeat (first | apply Kd.R_alloc | apply Kd.R_drewN | apply Kd.R_drew)); exact HO122.out) hb); have n1_ := Aside0.mk (below_step (by repeat (first | (with_reducible first | exact HB.out | apply below_alloc | apply pw_below_drewN | apply below_drew1) | exact HB.out)) hb); have n2_ := Aside0.mk (hbox); have n3_ := Aside0.mk ((by rw [hg]; exact (below_size (by repeat (first | (with_reducible first | exact HB.out | apply below_alloc | apply pw_below_drewN | apply below_drew1) | exact HB.out))) : w.heap.size ≤ gb123)); have n4_ := Aside0.mk ((by rw [hg]; exact (below_size (by repeat (first | (with_reducible first | exact HB.out | apply below_alloc | apply pw_below_drewN | apply below_drew1) | exact HB.out))) : w.heap.size ≤ gb123)); clear HO122; clear HB; have HO122 := n0_; have HB := n1_; have BK123 := n2_; have GW123 := n3_; have GE123 := n4_; clear n0_ n1_ n2_ n3_ n4_; clear hb hbox hg; have hcz5_0 : w4.cell? ⟨gb123, 0, none⟩ = some (.bool false) := (blk_cell BK123.out 0).trans rfl; have hcz5_1 : w4.cell? ⟨gb123, 1, none⟩ = some (.slice none 0 0) := (blk_cell BK123.out 1).trans rfl; have hfz5_0 := blk_frozen BK123.out 0; have hfz5_1 := blk_frozen BK123.out 1))
  go_loopg [4, 6, 8] k (fun kq v4 v6 v8 w' => ∃ (x4_1 : List (S33)) (x6_1 : Bool) (x8_1 : Int) (x124000_1 : Bool) (x124001_1 : List Int) (u124001 : Value), v6 = .bool x6_1 ∧ v8 = .int .i64 x8_1 ∧ Aside0 (depotref09_Parse.l0 kq x4_1 t120 x6_1 x8_1 x124000_1 x124001_1 = some (r1, r2)) ∧ Aside0 (kq ≤ k) ∧ Aside0 (Kd.S k33 33 w' w.heap.size (fun k_ => some k_ ≠ (u124001 : Value).ownBlock ∧ k_ ≠ gb123) v4 x4_1) ∧ Aside0 (Kd.R Kd.string 9 w' w.heap.size (fun _ => True) v121 t120) ∧ Aside0 (Kd.R (Kd.int .i64) 3 w' w.heap.size (fun _ => True) u124001 x124001_1) ∧ Aside0 (w'.heap[gb123]? = some (.cells #[.bool x124000_1, u124001] 33 (0, 0))) ∧ Aside0 (Below w.heap.size w w'))
  case atStart => exact ⟨(([] : List (S33))), (false), (0), (false), (([] : List Int)), (.slice none 0 0), (by first | rfl | (simp; done) | (simp [*]; done)), (by first | rfl | (simp; done) | (simp [*]; done)), H', ⟨Nat.le_refl _⟩, ⟨by first | exact Kd.S_nil _ _ _ _ _ | exact Kd.N_nil _ _ _ _ _ | exact Kd.V_nil _ _ _ _ _ | exact Kd.Q_nil _ _ _ _ _ | exact Kd.R_nil _ _ _ _ _⟩, ⟨by (with_reducible repeat (first | apply Kd.R_alloc | apply Kd.R_drewN | apply Kd.R_drew)); exact Kd.R_mono (Kd.R_far (p := ⟨gb123, 1, none⟩) (Kd.R_far (p := ⟨gb123, 0, none⟩) (Kd.R_types HO122.out BK123.out (by decide)) (fun _ hk => hk.2) (.bool false)) (fun _ hk => hk.2) (.slice none 0 0)) (fun _ hk => trivial)⟩, ⟨by first | exact Kd.R_nil _ _ _ _ _ | exact Kd.N_nil _ _ _ _ _ | exact Kd.V_nil _ _ _ _ _ | exact Kd.Q_nil _ _ _ _ _ | exact Kd.S_nil _ _ _ _ _⟩, ⟨by (with_reducible repeat (first | refine blk_drewN ?_ _ | refine blk_drew ?_ | refine blk_alloc ?_ _)); refine blk_put (cs := #[.bool false, .slice none 0 0]) ?_ 1 _ rfl; (with_reducible repeat (first | refine blk_drewN ?_ _ | refine blk_drew ?_ | refine blk_alloc ?_ _)); refine blk_put (cs := #[.bool false, .slice none 0 0]) ?_ 0 _ rfl; (with_reducible repeat (first | refine blk_drewN ?_ _ | refine blk_drew ?_ | refine blk_alloc ?_ _)); exact BK123.out⟩, ⟨by repeat (first | (with_reducible first | exact HB.out | apply below_alloc | apply pw_below_drewN | apply below_drew1 | refine below_set ?_ GE123.out) | exact HB.out)⟩⟩
  case round =>
    clear H'
    try clear p2
    try clear c3
    try clear c4
    try clear hcz5_0
    try clear hcz5_1
    try clear hfz5_0
    try clear hfz5_1
    obtain ⟨x4_1, x6_1, x8_1, x124000_1, x124001_1, u124001, rfl, rfl, HA, HK1, HO_4, HO_5, HO_124001, BK123, HB⟩ := hrel
    cases gk with
    | zero => exact absurd HA.out (by simp [depotref09_Parse.l0])
    | succ k1 =>
      have H := HA.out
      clear HA
      simp only [depotref09_Parse.l0] at H
      by_cases c6 : x8_1 < (t120.length : Int)
      · rw [if_pos c6] at H
        have c6b0 : decide (x8_1 < (t120.length : Int)) = true := decide_eq_true c6
        clear c6
        have HC7 := Aside0.mk H
        clear H
        obtain ⟨Ao8, co8, eo8⟩ := Kd.R_slice HO_5.out
        subst eo8
        go_upto_region 8 with (fail)
        go_cut [34] (fun v34 wc => ∃ (kq : Nat) (x34_6 : Bool), v34 = .bool x34_6 ∧ Aside0 (depotref09_Parse.j1 kq x4_1 t120 x6_1 x8_1 x34_6 x124000_1 x124001_1 = some (r1, r2)) ∧ Aside0 (kq ≤ k1) ∧ Aside0 (Kd.S k33 33 wc w.heap.size (fun k_ => some k_ ≠ (u124001 : Value).ownBlock ∧ k_ ≠ gb123) u4 x4_1) ∧ Aside0 (Kd.R Kd.string 9 wc w.heap.size (fun _ => True) (.slice Ao8 t120.length co8) t120) ∧ Aside0 (Kd.R (Kd.int .i64) 3 wc w.heap.size (fun _ => True) u124001 x124001_1) ∧ Aside0 (wc.heap[gb123]? = some (.cells #[.bool x124000_1, u124001] 33 (0, 0))) ∧ Aside0 (Below w.heap.size w wc))
        case first =>
          have H := HC7.out
          clear HC7
          by_cases c9 : 0 ≤ x8_1
          · rw [if_pos c9] at H
            have c9b0 : decide (0 ≤ x8_1) = true := decide_eq_true c9
            clear c9
            (first | rw [c9b0] | (simp only [i64_w, i32_w]; rw [c9b0]) | skip)
            by_cases c10 : ((rdOf ByteArray.empty t120 x8_1).size : Int) > 0
            · rw [if_pos c10] at H
              have c10b0 : decide (0 < ((rdOf ByteArray.empty t120 x8_1).size : Int)) = true := decide_eq_true c10
              have c10b1 : decide (0 < (rdOf ByteArray.empty t120 x8_1).size) = true := decide_eq_true (by omega)
              clear c10
              by_cases c11 : 0 < ((rdOf ByteArray.empty t120 x8_1).size : Int)
              · rw [if_pos c11] at H
                have c11b0 : decide (0 < ((rdOf ByteArray.empty t120 x8_1).size : Int)) = true := decide_eq_true c11
                have c11b1 : decide (0 < (rdOf ByteArray.empty t120 x8_1).size) = true := decide_eq_true (by omega)
                clear c11
                have H' := Aside0.mk H
                clear H
                have p124 : 0 ≤ (x8_1 : Int) := of_decide_eq_true (by first | (with_reducible assumption) | assumption)
                have q124 : x8_1 < (t120.length : Int) := of_decide_eq_true (by first | (with_reducible assumption) | assumption)
                obtain ⟨ad124, e124, hx124_0⟩ := Kd.at_string (Kd.R_reads' HO_5.out).2.2 x8_1 p124 q124
                cases e124
                replace p124 := eq_true p124
                replace q124 := eq_true q124
                have p125 : 0 ≤ (x8_1 : Int) := of_decide_eq_true (by first | (with_reducible assumption) | assumption)
                have q125 : x8_1 < (t120.length : Int) := of_decide_eq_true (by first | (with_reducible assumption) | assumption)
                obtain ⟨ad125, e125, hx125_0⟩ := Kd.at_string (Kd.R_reads' HO_5.out).2.2 x8_1 p125 q125
                obtain rfl : ad124 = ad125 := (by injection e125)
                replace p125 := eq_true p125
                replace q125 := eq_true q125
                have p12 : 0 ≤ (0 : Int) := (by omega)
                have q12 : 0 < (rdOf ByteArray.empty t120 x8_1).size := (by have : (0 : Int) < ((rdOf ByteArray.empty t120 x8_1).size : Int) := of_decide_eq_true (by first | (with_reducible assumption) | assumption); omega)
                have hx12 : ∀ h : 0 < (rdOf ByteArray.empty t120 x8_1).size, (((rdOf ByteArray.empty t120 x8_1)[0]'h).toNat : Int) = bt (rdOf ByteArray.empty t120 x8_1) 0 := bt_at (rdOf ByteArray.empty t120 x8_1) 0
                clear p12
                have qi12 : (0 < ((rdOf ByteArray.empty t120 x8_1).size : Int)) = True := eq_true (of_decide_eq_true (by first | (with_reducible assumption) | assumption))
                replace q12 := eq_true q12
                go_wp2
                go_meet
                case rel => exact ⟨_, (((bt (rdOf ByteArray.empty t120 x8_1) 0) == 99)), (by first | rfl | (simp; done) | (simp [*]; done)), H', ⟨by have := HK1.out; first | omega | exact Nat.le_refl _⟩, ⟨by (with_reducible repeat (first | apply Kd.S_alloc | apply Kd.S_drewN | apply Kd.S_drew)); exact HO_4.out⟩, ⟨by (with_reducible repeat (first | apply Kd.R_alloc | apply Kd.R_drewN | apply Kd.R_drew)); exact HO_5.out⟩, ⟨by (with_reducible repeat (first | apply Kd.R_alloc | apply Kd.R_drewN | apply Kd.R_drew)); exact HO_124001.out⟩, ⟨by (with_reducible repeat (first | refine blk_drewN ?_ _ | refine blk_drew ?_ | refine blk_alloc ?_ _)); exact BK123.out⟩, ⟨by repeat (first | (with_reducible first | exact HB.out | apply below_alloc | apply pw_below_drewN | apply below_drew1 | refine below_set ?_ GE123.out) | exact HB.out)⟩⟩
              · rw [if_neg c11] at H
                exact absurd H (by simp)
            · rw [if_neg c10] at H
              have c10b0 : decide (0 < ((rdOf ByteArray.empty t120 x8_1).size : Int)) = false := decide_eq_false c10
              have c10b1 : decide (0 < (rdOf ByteArray.empty t120 x8_1).size) = false := decide_eq_false (by omega)
              clear c10
              have H' := Aside0.mk H
              clear H
              have p124 : 0 ≤ (x8_1 : Int) := of_decide_eq_true (by first | (with_reducible assumption) | assumption)
              have q124 : x8_1 < (t120.length : Int) := of_decide_eq_true (by first | (with_reducible assumption) | assumption)
              obtain ⟨ad124, e124, hx124_0⟩ := Kd.at_string (Kd.R_reads' HO_5.out).2.2 x8_1 p124 q124
              cases e124
              replace p124 := eq_true p124
              replace q124 := eq_true q124
              go_wp2
              go_meet
              case rel => exact ⟨_, (false), (by first | rfl | (simp; done) | (simp [*]; done)), H', ⟨by have := HK1.out; first | omega | exact Nat.le_refl _⟩, ⟨by (with_reducible repeat (first | apply Kd.S_alloc | apply Kd.S_drewN | apply Kd.S_drew)); exact HO_4.out⟩, ⟨by (with_reducible repeat (first | apply Kd.R_alloc | apply Kd.R_drewN | apply Kd.R_drew)); exact HO_5.out⟩, ⟨by (with_reducible repeat (first | apply Kd.R_alloc | apply Kd.R_drewN | apply Kd.R_drew)); exact HO_124001.out⟩, ⟨by (with_reducible repeat (first | refine blk_drewN ?_ _ | refine blk_drew ?_ | refine blk_alloc ?_ _)); exact BK123.out⟩, ⟨by repeat (first | (with_reducible first | exact HB.out | apply below_alloc | apply pw_below_drewN | apply below_drew1 | refine below_set ?_ GE123.out) | exact HB.out)⟩⟩
          · rw [if_neg c9] at H
            exact absurd H (by simp)
        case rest =>
          clear HC7
          try clear c1
          try clear p1
          try clear q1
          try clear hx1
          try clear qi1
          try clear p2
          try clear c3
          try clear c4
          try clear c6
          try clear c6b0
          try clear c9
          try clear c9b0
          try clear c10
          try clear c10b0
          try clear c10b1
          try clear c11
          try clear c11b0
          try clear c11b1
          try clear p12
          try clear q12
          try clear hx12
          try clear qi12
          try clear hcz5_0
          try clear hcz5_1
          try clear hfz5_0
          try clear hfz5_1
          try clear hx124_0
          try clear hx125_0
          try clear p12
          try clear p124
          try clear p125
          try clear p2
          try clear q12
          try clear q124
          try clear q125
          obtain ⟨kq, x34_6, rfl, HA, HJ6, HO_4, HO_5, HO_124001, BK123, HB⟩ := hcut
          cases kq with
          | zero => exact absurd HA.out (by simp [depotref09_Parse.j1])
          | succ kj6 =>
            have H := HA.out
            clear HA
            simp only [depotref09_Parse.j1] at H
            by_cases c13 : x34_6 = true
            · subst c13
              have H1 : (if 0 ≤ x8_1 then (if x8_1 < (t120.length : Int) then ((depotref09_remark.f kj6 (rdOf ByteArray.empty t120 x8_1)).bind fun t127 => (if t127 = true then (depotref09_Parse.l0 kj6 x4_1 t120 x6_1 (wrap64 (x8_1 + 1)) x124000_1 x124001_1) else (some (x4_1, wrap64 (x8_1 + 1))))) else (none)) else (none)) = some (r1, r2) := by rw [if_pos rfl] at H; exact H
              clear H
              have H := H1
              clear H1
              by_cases c14 : 0 ≤ x8_1
              · rw [if_pos c14] at H
                have c14b0 : decide (0 ≤ x8_1) = true := decide_eq_true c14
                clear c14
                by_cases c15 : x8_1 < (t120.length : Int)
                · rw [if_pos c15] at H
                  have c15b0 : decide (x8_1 < (t120.length : Int)) = true := decide_eq_true c15
                  clear c15
                  replace H := Option.bind_eq_some_iff.mp H
                  obtain ⟨t127, A160, H⟩ := H
                  replace H : (if t127 = true then (depotref09_Parse.l0 kj6 x4_1 t120 x6_1 (wrap64 (x8_1 + 1)) x124000_1 x124001_1) else (some (x4_1, wrap64 (x8_1 + 1)))) = some (r1, r2) := H
                  have A16 := Aside0.mk A160
                  clear A160
                  by_cases c17 : t127 = true
                  · subst c17
                    have H1 : (depotref09_Parse.l0 kj6 x4_1 t120 x6_1 (wrap64 (x8_1 + 1)) x124000_1 x124001_1) = some (r1, r2) := by rw [if_pos rfl] at H; exact H
                    clear H
                    have H := H1
                    clear H1
                    have H' := Aside0.mk H
                    clear H
                    have p126 : 0 ≤ (x8_1 : Int) := of_decide_eq_true (by first | (with_reducible assumption) | assumption)
                    have q126 : x8_1 < (t120.length : Int) := of_decide_eq_true (by first | (with_reducible assumption) | assumption)
                    obtain ⟨ad126, e126, hx126_0⟩ := Kd.at_string (Kd.R_reads' HO_5.out).2.2 x8_1 p126 q126
                    cases e126
                    replace p126 := eq_true p126
                    replace q126 := eq_true q126
                    go_wp2_with (first | ((with_reducible refine gate_callee (f := 44) rfl ?_); refine goesL_ (some 39) rfl rfl Tryd.func44 (by kernel_rfl) rfl #[.string (rdOf ByteArray.empty t120 x8_1)] rfl (by (try simp only [List.map_toArray, List.map_cons, List.map_nil]); first | done | rfl | (simp only [List.length_drop, List.length_take]; rfl)) ?_; (with_reducible refine (depotref09_remark.calls kj6 (rdOf ByteArray.empty t120 x8_1) true _ A16.out).mono ?_); rintro e w' ⟨rfl, ⟨nd, rfl⟩⟩; refine ⟨_, rfl, ?_⟩))
                    go_roundg kj6
                    case measure => have := HK1.out; have := HJ6.out; omega
                    case rel => exact ⟨(x4_1), (x6_1), (wrap64 (x8_1 + 1)), (x124000_1), (x124001_1), (u124001), (by first | rfl | (simp; done) | (simp [*]; done)), (by first | rfl | (simp; done) | (simp [*]; done)), H', ⟨by have := HK1.out; have := HJ6.out; omega⟩, ⟨by (with_reducible repeat (first | apply Kd.S_alloc | apply Kd.S_drewN | apply Kd.S_drew)); exact HO_4.out⟩, ⟨by (with_reducible repeat (first | apply Kd.R_alloc | apply Kd.R_drewN | apply Kd.R_drew)); exact HO_5.out⟩, ⟨by (with_reducible repeat (first | apply Kd.R_alloc | apply Kd.R_drewN | apply Kd.R_drew)); exact HO_124001.out⟩, ⟨by (with_reducible repeat (first | refine blk_drewN ?_ _ | refine blk_drew ?_ | refine blk_alloc ?_ _)); exact BK123.out⟩, ⟨by repeat (first | (with_reducible first | exact HB.out | apply below_alloc | apply pw_below_drewN | apply below_drew1 | refine below_set ?_ GE123.out) | exact HB.out)⟩⟩
                  · replace c17 := Bool.eq_false_iff.mpr c17
                    subst c17
                    have H1 : (some (x4_1, wrap64 (x8_1 + 1))) = some (r1, r2) := by rw [if_neg (show ¬ (false = true) by decide)] at H; exact H
                    clear H
                    have H := H1
                    clear H1
                    simp only [Option.some.injEq, Prod.mk.injEq] at H
                    obtain ⟨rfl, rfl⟩ := H
                    have p126 : 0 ≤ (x8_1 : Int) := of_decide_eq_true (by first | (with_reducible assumption) | assumption)
                    have q126 : x8_1 < (t120.length : Int) := of_decide_eq_true (by first | (with_reducible assumption) | assumption)
                    obtain ⟨ad126, e126, hx126_0⟩ := Kd.at_string (Kd.R_reads' HO_5.out).2.2 x8_1 p126 q126
                    cases e126
                    replace p126 := eq_true p126
                    replace q126 := eq_true q126
                    go_wp2_with (first | ((with_reducible refine gate_callee (f := 44) rfl ?_); refine goesL_ (some 39) rfl rfl Tryd.func44 (by kernel_rfl) rfl #[.string (rdOf ByteArray.empty t120 x8_1)] rfl (by (try simp only [List.map_toArray, List.map_cons, List.map_nil]); first | done | rfl | (simp only [List.length_drop, List.length_take]; rfl)) ?_; (with_reducible refine (depotref09_remark.calls kj6 (rdOf ByteArray.empty t120 x8_1) false _ A16.out).mono ?_); rintro e w' ⟨rfl, ⟨nd, rfl⟩⟩; refine ⟨_, rfl, ?_⟩))
                    go_ret2
                    exact ⟨_, by first | rfl | (simp [errW_none, errW_some] <;> rfl) | (simp [*, errW_none, errW_some] <;> rfl), by (with_reducible repeat (first | apply Kd.S_alloc | apply Kd.S_drewN | apply Kd.S_drew)); exact Kd.S_mono HO_4.out (fun _ hk => trivial), by repeat (first | (with_reducible first | exact HB.out | apply below_alloc | apply pw_below_drewN | apply below_drew1 | refine below_set ?_ GE123.out) | exact HB.out)⟩
                · rw [if_neg c15] at H
                  exact absurd H (by simp)
              · rw [if_neg c14] at H
                exact absurd H (by simp)
            · replace c13 := Bool.eq_false_iff.mpr c13
              subst c13
              have H1 : (if 0 ≤ x8_1 then (if x8_1 < (t120.length : Int) then ((depotref03_Words.f kj6 (rdOf ByteArray.empty t120 x8_1)).bind fun t129 => (depotref09_Parse.l1 kj6 x4_1 t120 x6_1 x8_1 t129 0 x124000_1 x124001_1)) else (none)) else (none)) = some (r1, r2) := by rw [if_neg (show ¬ (false = true) by decide)] at H; exact H
              clear H
              have H := H1
              clear H1
              by_cases c18 : 0 ≤ x8_1
              · rw [if_pos c18] at H
                have c18b0 : decide (0 ≤ x8_1) = true := decide_eq_true c18
                clear c18
                by_cases c19 : x8_1 < (t120.length : Int)
                · rw [if_pos c19] at H
                  have c19b0 : decide (x8_1 < (t120.length : Int)) = true := decide_eq_true c19
                  clear c19
                  replace H := Option.bind_eq_some_iff.mp H
                  obtain ⟨t129, A200, H⟩ := H
                  replace H : (depotref09_Parse.l1 kj6 x4_1 t120 x6_1 x8_1 t129 0 x124000_1 x124001_1) = some (r1, r2) := H
                  have A20 := Aside0.mk A200
                  clear A200
                  have H' := Aside0.mk H
                  clear H
                  have p128 : 0 ≤ (x8_1 : Int) := of_decide_eq_true (by first | (with_reducible assumption) | assumption)
                  have q128 : x8_1 < (t120.length : Int) := of_decide_eq_true (by first | (with_reducible assumption) | assumption)
                  obtain ⟨ad128, e128, hx128_0⟩ := Kd.at_string (Kd.R_reads' HO_5.out).2.2 x8_1 p128 q128
                  cases e128
                  replace p128 := eq_true p128
                  replace q128 := eq_true q128
                  go_wp2_with (first | ((with_reducible refine gate_callee (f := 45) rfl ?_); refine goesL_ (some 48) rfl rfl Tryd.func45 (by kernel_rfl) rfl #[.string (rdOf ByteArray.empty t120 x8_1)] rfl (by (try simp only [List.map_toArray, List.map_cons, List.map_nil]); first | done | rfl | (simp only [List.length_drop, List.length_take]; rfl)) ?_; (with_reducible refine (depotref03_Words.calls kj6 (rdOf ByteArray.empty t120 x8_1) t129 _ A20.out).mono ?_); rintro e w21 ⟨v130, rfl, ho0, hb⟩; refine ⟨_, rfl, ?_⟩; have n0_ := Aside0.mk (Kd.S_below (by (with_reducible repeat (first | apply Kd.S_alloc | apply Kd.S_drewN | apply Kd.S_drew)); exact HO_4.out) hb); have n1_ := Aside0.mk (Kd.R_elder' (by (with_reducible repeat (first | apply Kd.R_alloc | apply Kd.R_drewN | apply Kd.R_drew)); exact HO_5.out) (Kd.R_base ho0) hb); have n2_ := Aside0.mk (Kd.R_below (by (with_reducible repeat (first | apply Kd.R_alloc | apply Kd.R_drewN | apply Kd.R_drew)); exact HO_124001.out) hb); have n3_ := Aside0.mk (Kd.R_lower (Kd.R_new' ho0 (Kd.R_lt (by (with_reducible repeat (first | apply Kd.R_alloc | apply Kd.R_drewN | apply Kd.R_drew)); exact HO_5.out))) (below_size (by repeat (first | (with_reducible first | exact HB.out | apply below_alloc | apply pw_below_drewN | apply below_drew1 | refine below_set ?_ GE123.out) | exact HB.out)))); have n4_ := Aside0.mk (blk_below (g := gb123) (o := .cells #[.bool x124000_1, u124001] 33 (0, 0)) (by (with_reducible repeat (first | refine blk_drewN ?_ _ | refine blk_drew ?_ | refine blk_alloc ?_ _)); exact BK123.out) hb); have n5_ := Aside0.mk (below_step (by repeat (first | (with_reducible first | exact HB.out | apply below_alloc | apply pw_below_drewN | apply below_drew1 | refine below_set ?_ GE123.out) | exact HB.out)) hb); clear HO_4; clear HO_5; clear HO_124001; clear BK123; clear HB; have HO_4 := n0_; have HO_5 := n1_; have HO_124001 := n2_; have HO131 := n3_; have BK123 := n4_; have HB := n5_; clear n0_ n1_ n2_ n3_ n4_ n5_; (try clear hb); (try clear hb2); (try clear hk); (try clear hi); (try clear ho0)))
                  go_loopg [4, 6, 10] kj6 (fun kq v4 v6 v10 w' => ∃ (x4_3 : List (S33)) (x6_3 : Bool) (x10_3 : Int) (x124000_3 : Bool) (x124001_3 : List Int) (u124001 : Value), v6 = .bool x6_3 ∧ v10 = .int .i64 x10_3 ∧ Aside0 (depotref09_Parse.l1 kq x4_3 t120 x6_3 x8_1 t129 x10_3 x124000_3 x124001_3 = some (r1, r2)) ∧ Aside0 (kq ≤ kj6) ∧ Aside0 (Kd.S k33 33 w' w.heap.size (fun k_ => some k_ ≠ (u124001 : Value).ownBlock ∧ k_ ≠ gb123) v4 x4_3) ∧ Aside0 (Kd.R Kd.string 9 w' w.heap.size (fun k_ => some k_ ≠ (v130 : Value).ownBlock) (.slice (some ad128) t120.length co8) t120) ∧ Aside0 (Kd.R Kd.string 9 w' w.heap.size (fun k_ => some k_ ≠ ((.slice (some ad128) t120.length co8) : Value).ownBlock) v130 t129) ∧ Aside0 (Kd.R (Kd.int .i64) 3 w' w.heap.size (fun _ => True) u124001 x124001_3) ∧ Aside0 (w'.heap[gb123]? = some (.cells #[.bool x124000_3, u124001] 33 (0, 0))) ∧ Aside0 (Below w.heap.size w w'))
                  case atStart => exact ⟨(x4_1), (x6_1), (0), (x124000_1), (x124001_1), (u124001), (by first | rfl | (simp; done) | (simp [*]; done)), (by first | rfl | (simp; done) | (simp [*]; done)), H', ⟨Nat.le_refl _⟩, ⟨by (with_reducible repeat (first | apply Kd.S_alloc | apply Kd.S_drewN | apply Kd.S_drew)); exact HO_4.out⟩, ⟨by (with_reducible repeat (first | apply Kd.R_alloc | apply Kd.R_drewN | apply Kd.R_drew)); exact Kd.R_mono HO_5.out (fun _ hk => hk.2)⟩, ⟨by (with_reducible repeat (first | apply Kd.R_alloc | apply Kd.R_drewN | apply Kd.R_drew)); exact Kd.R_mono HO131.out (fun _ hk => hk.2)⟩, ⟨by (with_reducible repeat (first | apply Kd.R_alloc | apply Kd.R_drewN | apply Kd.R_drew)); exact HO_124001.out⟩, ⟨by (with_reducible repeat (first | refine blk_drewN ?_ _ | refine blk_drew ?_ | refine blk_alloc ?_ _)); exact BK123.out⟩, ⟨by repeat (first | (with_reducible first | exact HB.out | apply below_alloc | apply pw_below_drewN | apply below_drew1 | refine below_set ?_ GE123.out) | exact HB.out)⟩⟩
                  case round =>
                    clear H'
                    try clear c1
                    try clear p1
                    try clear q1
                    try clear hx1
                    try clear qi1
                    try clear p2
                    try clear c3
                    try clear c4
                    try clear c6
                    try clear c6b0
                    try clear p6
                    try clear c9
                    try clear c9b0
                    try clear c10
                    try clear c10b0
                    try clear c10b1
                    try clear c11
                    try clear c11b0
                    try clear c11b1
                    try clear p12
                    try clear q12
                    try clear hx12
                    try clear qi12
                    try clear c13
                    try clear c14
                    try clear c14b0
                    try clear c15
                    try clear c15b0
                    try clear c17
                    try clear c18
                    try clear c18b0
                    try clear c19
                    try clear c19b0
                    try clear hcz5_0
                    try clear hcz5_1
                    try clear hfz5_0
                    try clear hfz5_1
                    try clear hx124_0
                    try clear hx125_0
                    try clear hx126_0
                    try clear hx128_0
                    try clear p1
                    try clear p12
                    try clear p124
                    try clear p125
                    try clear p126
                    try clear p128
                    try clear p2
                    try clear q1
                    try clear q12
                    try clear q124
                    try clear q125
                    try clear q126
                    try clear q128
                    obtain ⟨x4_3, x6_3, x10_3, x124000_3, x124001_3, u124001, rfl, rfl, HA, HK3, HO_4, HO_5, HO_9, HO_124001, BK123, HB⟩ := hrel
                    cases gk with
                    | zero => exact absurd HA.out (by simp [depotref09_Parse.l1])
                    | succ k3 =>
                      have H := HA.out
                      clear HA
                      simp only [depotref09_Parse.l1] at H
                      by_cases c22 : x10_3 < (t129.length : Int)
                      · rw [if_pos c22] at H
                        have c22b0 : decide (x10_3 < (t129.length : Int)) = true := decide_eq_true c22
                        clear c22
                        by_cases c23 : 0 ≤ x10_3
                        · rw [if_pos c23] at H
                          have c23b0 : decide (0 ≤ x10_3) = true := decide_eq_true c23
                          clear c23
                          have HC24 := Aside0.mk H
                          clear H
                          obtain ⟨Ao25, co25, eo25⟩ := Kd.R_slice HO_9.out
                          subst eo25
                          have p132 : 0 ≤ (x10_3 : Int) := of_decide_eq_true (by first | (with_reducible assumption) | assumption)
                          have q132 : x10_3 < (t129.length : Int) := of_decide_eq_true (by first | (with_reducible assumption) | assumption)
                          obtain ⟨ad132, e132, hx132_0⟩ := Kd.at_string (Kd.R_reads' HO_9.out).2.2 x10_3 p132 q132
                          cases e132
                          replace p132 := eq_true p132
                          replace q132 := eq_true q132
                          go_upto_region 17 with (fail)
                          go_cut [62] (fun v62 wc => ∃ (kq : Nat) (x62_23 : Bool), v62 = .bool x62_23 ∧ Aside0 (depotref09_Parse.j3 kq x4_3 t120 x8_1 t129 x10_3 (rdOf ByteArray.empty t129 x10_3) x62_23 x124000_3 x124001_3 = some (r1, r2)) ∧ Aside0 (kq ≤ k3) ∧ Aside0 (Kd.S k33 33 wc w.heap.size (fun k_ => some k_ ≠ (u124001 : Value).ownBlock ∧ k_ ≠ gb123) u4 x4_3) ∧ Aside0 (Kd.R Kd.string 9 wc w.heap.size (fun k_ => some k_ ≠ ((.slice (some ad132) t129.length co25) : Value).ownBlock) (.slice (some ad128) t120.length co8) t120) ∧ Aside0 (Kd.R Kd.string 9 wc w.heap.size (fun k_ => some k_ ≠ ((.slice (some ad128) t120.length co8) : Value).ownBlock) (.slice (some ad132) t129.length co25) t129) ∧ Aside0 (Kd.R (Kd.int .i64) 3 wc w.heap.size (fun _ => True) u124001 x124001_3) ∧ Aside0 (wc.heap[gb123]? = some (.cells #[.bool x124000_3, u124001] 33 (0, 0))) ∧ Aside0 (Below w.heap.size w wc))
                          case first =>
                            have H := HC24.out
                            clear HC24
                            by_cases c26 : (rdOf ByteArray.empty t129 x10_3).toList = ([100] : List UInt8)
                            · rw [if_pos c26] at H
                              have c26b0 : ((rdOf ByteArray.empty t129 x10_3).toList == ([100] : List UInt8)) = true := beq_iff_eq.mpr c26
                              have c26b1 : ((rdOf ByteArray.empty t129 x10_3).toList != ([100] : List UInt8)) = false := bne_eq_false_iff_eq.mpr c26
                              clear c26
                              (first | rw [c26b0] | (simp only [i64_w, i32_w]; rw [c26b0]) | skip)
                              have H' := Aside0.mk H
                              clear H
                              go_wp2
                              go_meet
                              case rel => exact ⟨_, (!x6_3), (by first | rfl | (simp; done) | (simp [*]; done)), H', ⟨by have := HK1.out; have := HJ6.out; have := HK3.out; first | omega | exact Nat.le_refl _⟩, ⟨by (with_reducible repeat (first | apply Kd.S_alloc | apply Kd.S_drewN | apply Kd.S_drew)); exact HO_4.out⟩, ⟨by (with_reducible repeat (first | apply Kd.R_alloc | apply Kd.R_drewN | apply Kd.R_drew)); exact HO_5.out⟩, ⟨by (with_reducible repeat (first | apply Kd.R_alloc | apply Kd.R_drewN | apply Kd.R_drew)); exact HO_9.out⟩, ⟨by (with_reducible repeat (first | apply Kd.R_alloc | apply Kd.R_drewN | apply Kd.R_drew)); exact HO_124001.out⟩, ⟨by (with_reducible repeat (first | refine blk_drewN ?_ _ | refine blk_drew ?_ | refine blk_alloc ?_ _)); exact BK123.out⟩, ⟨by repeat (first | (with_reducible first | exact HB.out | apply below_alloc | apply pw_below_drewN | apply below_drew1 | refine below_set ?_ GE123.out) | exact HB.out)⟩⟩
                            · rw [if_neg c26] at H
                              have c26b0 : ((rdOf ByteArray.empty t129 x10_3).toList == ([100] : List UInt8)) = false := beq_eq_false_iff_ne.mpr c26
                              have c26b1 : ((rdOf ByteArray.empty t129 x10_3).toList != ([100] : List UInt8)) = true := bne_iff_ne.mpr c26
                              (first | rw [c26b0] | (simp only [i64_w, i32_w]; rw [c26b0]) | skip)
                              have H' := Aside0.mk H
                              clear H
                              go_wp2
                              go_meet
                              case rel => exact ⟨_, (false), (by first | rfl | (simp; done) | (simp [*]; done)), H', ⟨by have := HK1.out; have := HJ6.out; have := HK3.out; first | omega | exact Nat.le_refl _⟩, ⟨by (with_reducible repeat (first | apply Kd.S_alloc | apply Kd.S_drewN | apply Kd.S_drew)); exact HO_4.out⟩, ⟨by (with_reducible repeat (first | apply Kd.R_alloc | apply Kd.R_drewN | apply Kd.R_drew)); exact HO_5.out⟩, ⟨by (with_reducible repeat (first | apply Kd.R_alloc | apply Kd.R_drewN | apply Kd.R_drew)); exact HO_9.out⟩, ⟨by (with_reducible repeat (first | apply Kd.R_alloc | apply Kd.R_drewN | apply Kd.R_drew)); exact HO_124001.out⟩, ⟨by (with_reducible repeat (first | refine blk_drewN ?_ _ | refine blk_drew ?_ | refine blk_alloc ?_ _)); exact BK123.out⟩, ⟨by repeat (first | (with_reducible first | exact HB.out | apply below_alloc | apply pw_below_drewN | apply below_drew1 | refine below_set ?_ GE123.out) | exact HB.out)⟩⟩
                          case rest =>
                            clear HC24
                            try clear c1
                            try clear p1
                            try clear q1
                            try clear hx1
                            try clear qi1
                            try clear c2
                            try clear p2
                            try clear c3
                            try clear c4
                            try clear c6
                            try clear c6b0
                            try clear p6
                            try clear c9
                            try clear c9b0
                            try clear c10
                            try clear c10b0
                            try clear c10b1
                            try clear c11
                            try clear c11b0
                            try clear c11b1
                            try clear p12
                            try clear q12
                            try clear hx12
                            try clear qi12
                            try clear c13
                            try clear p13
                            try clear q13
                            try clear hx13
                            try clear c14
                            try clear c14b0
                            try clear c15
                            try clear c15b0
                            try clear c17
                            try clear c18
                            try clear c18b0
                            try clear c19
                            try clear c19b0
                            try clear c22
                            try clear c22b0
                            try clear c23
                            try clear c23b0
                            try clear c26
                            try clear c26b0
                            try clear c26b1
                            try clear hcz5_0
                            try clear hcz5_1
                            try clear hfz5_0
                            try clear hfz5_1
                            try clear hx124_0
                            try clear hx125_0
                            try clear hx126_0
                            try clear hx128_0
                            try clear hx132_0
                            try clear p1
                            try clear p12
                            try clear p124
                            try clear p125
                            try clear p126
                            try clear p128
                            try clear p132
                            try clear p2
                            try clear p6
                            try clear q1
                            try clear q12
                            try clear q124
                            try clear q125
                            try clear q126
                            try clear q128
                            try clear q132
                            obtain ⟨kq, x62_23, rfl, HA, HJ23, HO_4, HO_5, HO_9, HO_124001, BK123, HB⟩ := hcut
                            cases kq with
                            | zero => exact absurd HA.out (by simp [depotref09_Parse.j3])
                            | succ kj23 =>
                              have H := HA.out
                              clear HA
                              simp only [depotref09_Parse.j3] at H
                              by_cases c27 : x62_23 = true
                              · subst c27
                                have H1 : (depotref09_Parse.l1 kj23 x4_3 t120 true x8_1 t129 (wrap64 (x10_3 + 1)) true x124001_3) = some (r1, r2) := by rw [if_pos rfl] at H; exact H
                                clear H
                                have H := H1
                                clear H1
                                have H' := Aside0.mk H
                                clear H
                                have hcz28_0 : wc.cell? ⟨gb123, 0, none⟩ = some (.bool x124000_3) := (blk_cell BK123.out 0).trans rfl
                                have hcz28_1 : wc.cell? ⟨gb123, 1, none⟩ = some (u124001) := (blk_cell BK123.out 1).trans rfl
                                have hfz28_0 := blk_frozen BK123.out 0
                                have hfz28_1 := blk_frozen BK123.out 1
                                go_wp2
                                go_roundg kj23
                                case measure => have := HK1.out; have := HJ6.out; have := HK3.out; have := HJ23.out; omega
                                case rel => exact ⟨(x4_3), (true), (wrap64 (x10_3 + 1)), (true), (x124001_3), (u124001), (by first | rfl | (simp; done) | (simp [*]; done)), (by first | rfl | (simp; done) | (simp [*]; done)), H', ⟨by have := HK1.out; have := HJ6.out; have := HK3.out; have := HJ23.out; omega⟩, ⟨by (with_reducible repeat (first | apply Kd.S_alloc | apply Kd.S_drewN | apply Kd.S_drew)); exact Kd.S_mono (Kd.S_far (p := ⟨gb123, 0, none⟩) (Kd.S_mono HO_4.out (fun k_ hk => (⟨hk, hk.2⟩ : _ ∧ k_ ≠ gb123))) (fun _ hk => hk.2) (.bool true)) (fun _ hk => ⟨hk.1.1, hk.1.2⟩)⟩, ⟨by (with_reducible repeat (first | apply Kd.R_alloc | apply Kd.R_drewN | apply Kd.R_drew)); exact Kd.R_mono (Kd.R_far (p := ⟨gb123, 0, none⟩) (Kd.R_types HO_5.out BK123.out (by decide)) (fun _ hk => hk.2) (.bool true)) (fun _ hk => hk.1)⟩, ⟨by (with_reducible repeat (first | apply Kd.R_alloc | apply Kd.R_drewN | apply Kd.R_drew)); exact Kd.R_mono (Kd.R_far (p := ⟨gb123, 0, none⟩) (Kd.R_types HO_9.out BK123.out (by decide)) (fun _ hk => hk.2) (.bool true)) (fun _ hk => hk.1)⟩, ⟨by (with_reducible repeat (first | apply Kd.R_alloc | apply Kd.R_drewN | apply Kd.R_drew)); exact Kd.R_mono (Kd.R_far (p := ⟨gb123, 0, none⟩) (Kd.R_types HO_124001.out BK123.out (by decide)) (fun _ hk => hk.2) (.bool true)) (fun _ hk => trivial)⟩, ⟨by (with_reducible repeat (first | refine blk_drewN ?_ _ | refine blk_drew ?_ | refine blk_alloc ?_ _)); refine blk_put (cs := #[.bool x124000_3, u124001]) ?_ 0 _ rfl; (with_reducible repeat (first | refine blk_drewN ?_ _ | refine blk_drew ?_ | refine blk_alloc ?_ _)); exact BK123.out⟩, ⟨by repeat (first | (with_reducible first | exact HB.out | apply below_alloc | apply pw_below_drewN | apply below_drew1 | refine below_set ?_ GE123.out) | exact HB.out)⟩⟩
                              · replace c27 := Bool.eq_false_iff.mpr c27
                                subst c27
                                have H1 : (if (rdOf ByteArray.empty t129 x10_3).toList = ([48] : List UInt8) then (if x4_3.length < 4398046511104 then (depotref09_Parse.l1 kj23 (x4_3 ++ [(⟨x124000_3, x124001_3⟩ : S33)]) t120 false x8_1 t129 (wrap64 (x10_3 + 1)) false ([] : List Int)) else (none)) else ((depotref09_literal.f kj23 (rdOf ByteArray.empty t129 x10_3)).bind fun t136 => (if t136 = true then ((depotref03_Value.f (rdOf ByteArray.empty t129 x10_3)).bind fun t137 => (if x124001_3.length < 17592186044416 then (depotref09_Parse.l1 kj23 x4_3 t120 true x8_1 t129 (wrap64 (x10_3 + 1)) x124000_3 (x124001_3 ++ [t137])) else (none))) else (some (x4_3, wrap64 (x8_1 + 1)))))) = some (r1, r2) := by rw [if_neg (show ¬ (false = true) by decide)] at H; exact H
                                clear H
                                have H := H1
                                clear H1
                                by_cases c29 : (rdOf ByteArray.empty t129 x10_3).toList = ([48] : List UInt8)
                                · rw [if_pos c29] at H
                                  have c29b0 : ((rdOf ByteArray.empty t129 x10_3).toList == ([48] : List UInt8)) = true := beq_iff_eq.mpr c29
                                  have c29b1 : ((rdOf ByteArray.empty t129 x10_3).toList != ([48] : List UInt8)) = false := bne_eq_false_iff_eq.mpr c29
                                  clear c29
                                  by_cases c30 : x4_3.length < 4398046511104
                                  · rw [if_pos c30] at H
                                    have LMc30 := Aside0.mk c30
                                    clear c30
                                    obtain ⟨y133, hy133⟩ : ∃ y_ : List (S33), y_ = (x4_3 ++ [(⟨x124000_3, x124001_3⟩ : S33)]) := ⟨_, rfl⟩
                                    replace H : (depotref09_Parse.l1 kj23 y133 t120 false x8_1 t129 (wrap64 (x10_3 + 1)) false ([] : List Int)) = some (r1, r2) := by first | (rw [hy133]; with_reducible exact H) | (have H2_ := (Option.bind_some _ _).symm.trans H; rw [hy133]; with_reducible exact H2_) | (have H2_ := (Option.bind_some _ _).symm.trans H; with_reducible exact H2_) | with_reducible exact H | (rw [hy133]; exact H) | exact H
                                    have Ny133 := Aside0.mk hy133
                                    clear hy133
                                    have H' := Aside0.mk H
                                    clear H
                                    have hcz31_0 : wc.cell? ⟨gb123, 0, none⟩ = some (.bool x124000_3) := (blk_cell BK123.out 0).trans rfl
                                    have hcz31_1 : wc.cell? ⟨gb123, 1, none⟩ = some (u124001) := (blk_cell BK123.out 1).trans rfl
                                    have hfz31_0 := blk_frozen BK123.out 0
                                    have hfz31_1 := blk_frozen BK123.out 1
                                    obtain ⟨Ao33, co33, eo33⟩ := Kd.R_slice HO_124001.out
                                    subst eo33
                                    go_wp2_with (first | ((with_reducible refine gate_builtin (b := .append) (xs := #[.tmp 73, .tmp 75]) rfl ?_); at_builtin; refine Kd.S_append k33 (w0 := w) w.heap.size rfl (.tmp 73) (.tmp 75) 22 33 (.agg #[(.bool false), (.slice none 0 0)]) 32 rfl Tryd.underlying22 info33 rfl (by decide) (by omega) u4 x4_3 (⟨x124000_3, x124001_3⟩ : S33) [.bool x124000_3, .slice Ao33 x124001_3.length co33] (fun k_ => k_ ≠ gb123) (fun k_ => some k_ = (.slice Ao33 x124001_3.length co33 : Value).ownBlock) rfl rfl ?aP (fun k_ hk_ => ((Kd.R_mono (ok' := fun k_ => ((fun k_ => k_ ≠ gb123)) k_ ∧ some k_ ≠ (u4 : Value).ownBlock) (Kd.R_types (Kd.R_apart' (HO_124001.out) (Kd.S_typed HO_4.out) (by decide)) BK123.out (by decide)) (fun k_ hk => ⟨hk.2, hk.1.2⟩))).1 k_ hk_.symm) ?aF ?aO ?aB ?aS ?aL ?_; (case aP => exact k33_mkM _ _ _ (⟨x124000_3, x124001_3⟩ : S33) (Kd.R_mono (Kd.R_tight rfl (Kd.R_mono (ok' := fun k_ => ((fun k_ => k_ ≠ gb123)) k_ ∧ some k_ ≠ (u4 : Value).ownBlock) (Kd.R_types (Kd.R_apart' (HO_124001.out) (Kd.S_typed HO_4.out) (by decide)) BK123.out (by decide)) (fun k_ hk => ⟨hk.2, hk.1.2⟩))) (fun _ h_ => h_))); (case aB => exact (by repeat (first | (with_reducible first | exact HB.out | apply below_alloc | apply pw_below_drewN | apply below_drew1 | refine below_set ?_ GE123.out) | exact HB.out))); (case aF => exact (fun k_ hk => Kd.freshB (g := gb123) (o := .cells #[.bool x124000_3, .slice Ao33 x124001_3.length co33] 33 (0, 0)) (by (with_reducible repeat (first | refine blk_drewN ?_ _ | refine blk_drew ?_ | refine blk_alloc ?_ _)); exact BK123.out) k_ hk)); (case aO => exact (by (with_reducible repeat (first | apply Kd.S_alloc | apply Kd.S_drewN | apply Kd.S_drew)); exact Kd.S_mono HO_4.out (fun k_ hk => ⟨hk.2, fun e_ => hk.1 e_⟩))); (case aS => exact (below_size (by repeat (first | (with_reducible first | exact HB.out | apply below_alloc | apply pw_below_drewN | apply below_drew1 | refine below_set ?_ GE123.out) | exact HB.out)))); (case aL => have := LMc30.out; first | omega | exact Nat.le_of_lt this | exact this); intro v134 w32 ho hb hg hat; rw [← Ny133.out] at ho; have n0_ := Aside0.mk (Kd.R_over' (by (with_reducible repeat (first | apply Kd.R_alloc | apply Kd.R_drewN | apply Kd.R_drew)); exact HO_5.out) (Kd.S_typed (by (with_reducible repeat (first | apply Kd.S_alloc | apply Kd.S_drewN | apply Kd.S_drew)); exact HO_4.out)) (by decide) hg); have n1_ := Aside0.mk (Kd.R_over' (by (with_reducible repeat (first | apply Kd.R_alloc | apply Kd.R_drewN | apply Kd.R_drew)); exact HO_9.out) (Kd.S_typed (by (with_reducible repeat (first | apply Kd.S_alloc | apply Kd.S_drewN | apply Kd.S_drew)); exact HO_4.out)) (by decide) hg); have n2_ := Aside0.mk (blk_grown (g := gb123) (o := .cells #[.bool x124000_3, .slice Ao33 x124001_3.length co33] 33 (0, 0)) (by (with_reducible repeat (first | refine blk_drewN ?_ _ | refine blk_drew ?_ | refine blk_alloc ?_ _)); exact BK123.out) hg (Kd.S_away HO_4.out (fun _ hk => hk.2))); have n3_ := Aside0.mk (hb); have n4_ := Aside0.mk (ho); clear HO_5; clear HO_9; clear BK123; clear HB; clear HO_4; clear HO_124001; have HO_5 := n0_; have HO_9 := n1_; have BK123 := n2_; have HB := n3_; have HO135 := n4_; clear n0_ n1_ n2_ n3_ n4_; clear ho hb hg hat; have hcz34_0 : w32.cell? ⟨gb123, 0, none⟩ = some (.bool x124000_3) := (blk_cell BK123.out 0).trans rfl; have hcz34_1 : w32.cell? ⟨gb123, 1, none⟩ = some (.slice Ao33 x124001_3.length co33) := (blk_cell BK123.out 1).trans rfl; have hfz34_0 := blk_frozen BK123.out 0; have hfz34_1 := blk_frozen BK123.out 1))
                                    go_roundg kj23
                                    case measure => have := HK1.out; have := HJ6.out; have := HK3.out; have := HJ23.out; omega
                                    case rel => exact ⟨(y133), (false), (wrap64 (x10_3 + 1)), (false), (([] : List Int)), (.slice none 0 0), (by first | rfl | (simp; done) | (simp [*]; done)), (by first | rfl | (simp; done) | (simp [*]; done)), H', ⟨by have := HK1.out; have := HJ6.out; have := HK3.out; have := HJ23.out; omega⟩, ⟨by (with_reducible repeat (first | apply Kd.S_alloc | apply Kd.S_drewN | apply Kd.S_drew)); exact Kd.S_mono (Kd.S_far (p := ⟨gb123, 1, none⟩) (Kd.S_far (p := ⟨gb123, 0, none⟩) (Kd.S_mono HO135.out (fun k_ hk => (⟨hk, hk⟩ : _ ∧ k_ ≠ gb123))) (fun _ hk => hk.2) (.bool false)) (fun _ hk => hk.2) (.slice none 0 0)) (fun _ hk => ⟨(by simp [Value.ownBlock]), hk.1⟩)⟩, ⟨by (with_reducible repeat (first | apply Kd.R_alloc | apply Kd.R_drewN | apply Kd.R_drew)); exact Kd.R_mono (Kd.R_far (p := ⟨gb123, 1, none⟩) (Kd.R_far (p := ⟨gb123, 0, none⟩) (Kd.R_types HO_5.out BK123.out (by decide)) (fun _ hk => hk.2) (.bool false)) (fun _ hk => hk.2) (.slice none 0 0)) (fun _ hk => hk.1)⟩, ⟨by (with_reducible repeat (first | apply Kd.R_alloc | apply Kd.R_drewN | apply Kd.R_drew)); exact Kd.R_mono (Kd.R_far (p := ⟨gb123, 1, none⟩) (Kd.R_far (p := ⟨gb123, 0, none⟩) (Kd.R_types HO_9.out BK123.out (by decide)) (fun _ hk => hk.2) (.bool false)) (fun _ hk => hk.2) (.slice none 0 0)) (fun _ hk => hk.1)⟩, ⟨by first | exact Kd.R_nil _ _ _ _ _ | exact Kd.N_nil _ _ _ _ _ | exact Kd.V_nil _ _ _ _ _ | exact Kd.Q_nil _ _ _ _ _ | exact Kd.S_nil _ _ _ _ _⟩, ⟨by (with_reducible repeat (first | refine blk_drewN ?_ _ | refine blk_drew ?_ | refine blk_alloc ?_ _)); refine blk_put (cs := #[.bool false, .slice Ao33 x124001_3.length co33]) ?_ 1 _ rfl; (with_reducible repeat (first | refine blk_drewN ?_ _ | refine blk_drew ?_ | refine blk_alloc ?_ _)); refine blk_put (cs := #[.bool x124000_3, .slice Ao33 x124001_3.length co33]) ?_ 0 _ rfl; (with_reducible repeat (first | refine blk_drewN ?_ _ | refine blk_drew ?_ | refine blk_alloc ?_ _)); exact BK123.out⟩, ⟨by repeat (first | (with_reducible first | exact HB.out | apply below_alloc | apply pw_below_drewN | apply below_drew1 | refine below_set ?_ GE123.out) | exact HB.out)⟩⟩
                                  · rw [if_neg c30] at H
                                    exact absurd H (by simp)
                                · rw [if_neg c29] at H
                                  have c29b0 : ((rdOf ByteArray.empty t129 x10_3).toList == ([48] : List UInt8)) = false := beq_eq_false_iff_ne.mpr c29
                                  have c29b1 : ((rdOf ByteArray.empty t129 x10_3).toList != ([48] : List UInt8)) = true := bne_iff_ne.mpr c29
                                  replace H := Option.bind_eq_some_iff.mp H
                                  obtain ⟨t136, A350, H⟩ := H
                                  replace H : (if t136 = true then ((depotref03_Value.f (rdOf ByteArray.empty t129 x10_3)).bind fun t137 => (if x124001_3.length < 17592186044416 then (depotref09_Parse.l1 kj23 x4_3 t120 true x8_1 t129 (wrap64 (x10_3 + 1)) x124000_3 (x124001_3 ++ [t137])) else (none))) else (some (x4_3, wrap64 (x8_1 + 1)))) = some (r1, r2) := H
                                  have A35 := Aside0.mk A350
                                  clear A350
                                  by_cases c36 : t136 = true
                                  · subst c36
                                    have H1 : ((depotref03_Value.f (rdOf ByteArray.empty t129 x10_3)).bind fun t137 => (if x124001_3.length < 17592186044416 then (depotref09_Parse.l1 kj23 x4_3 t120 true x8_1 t129 (wrap64 (x10_3 + 1)) x124000_3 (x124001_3 ++ [t137])) else (none))) = some (r1, r2) := by rw [if_pos rfl] at H; exact H
                                    clear H
                                    have H := H1
                                    clear H1
                                    replace H := Option.bind_eq_some_iff.mp H
                                    obtain ⟨t137, A370, H⟩ := H
                                    replace H : (if x124001_3.length < 17592186044416 then (depotref09_Parse.l1 kj23 x4_3 t120 true x8_1 t129 (wrap64 (x10_3 + 1)) x124000_3 (x124001_3 ++ [t137])) else (none)) = some (r1, r2) := H
                                    have A37 := Aside0.mk A370
                                    clear A370
                                    by_cases c38 : x124001_3.length < 17592186044416
                                    · rw [if_pos c38] at H
                                      have LMc38 := Aside0.mk c38
                                      clear c38
                                      obtain ⟨y138, hy138⟩ : ∃ y_ : List Int, y_ = (x124001_3 ++ [t137]) := ⟨_, rfl⟩
                                      replace H : (depotref09_Parse.l1 kj23 x4_3 t120 true x8_1 t129 (wrap64 (x10_3 + 1)) x124000_3 y138) = some (r1, r2) := by first | (rw [hy138]; with_reducible exact H) | (have H2_ := (Option.bind_some _ _).symm.trans H; rw [hy138]; with_reducible exact H2_) | (have H2_ := (Option.bind_some _ _).symm.trans H; with_reducible exact H2_) | with_reducible exact H | (rw [hy138]; exact H) | exact H
                                      have Ny138 := Aside0.mk hy138
                                      clear hy138
                                      have H' := Aside0.mk H
                                      clear H
                                      try go_wp2_with (first | ((with_reducible refine gate_callee (f := 46) rfl ?_); refine goesL_ (some 80) rfl rfl Tryd.func46 (by kernel_rfl) rfl #[.string (rdOf ByteArray.empty t129 x10_3)] rfl (by (try simp only [List.map_toArray, List.map_cons, List.map_nil]); first | done | rfl | (simp only [List.length_drop, List.length_take]; rfl)) ?_; (with_reducible refine (depotref09_literal.calls kj23 (rdOf ByteArray.empty t129 x10_3) true _ ?side1 A35.out).mono ?_); (case side1 => exact Env.below HE.out (by repeat (first | (with_reducible first | exact HB.out | apply below_alloc | apply pw_below_drewN | apply below_drew1 | refine below_set ?_ GE123.out) | exact HB.out))); rintro e w39 ⟨rfl, hb⟩; refine ⟨_, rfl, ?_⟩; have n0_ := Aside0.mk (Kd.S_below (by (with_reducible repeat (first | apply Kd.S_alloc | apply Kd.S_drewN | apply Kd.S_drew)); exact HO_4.out) hb); have n1_ := Aside0.mk (Kd.R_below (by (with_reducible repeat (first | apply Kd.R_alloc | apply Kd.R_drewN | apply Kd.R_drew)); exact HO_5.out) hb); have n2_ := Aside0.mk (Kd.R_below (by (with_reducible repeat (first | apply Kd.R_alloc | apply Kd.R_drewN | apply Kd.R_drew)); exact HO_9.out) hb); have n3_ := Aside0.mk (Kd.R_below (by (with_reducible repeat (first | apply Kd.R_alloc | apply Kd.R_drewN | apply Kd.R_drew)); exact HO_124001.out) hb); have n4_ := Aside0.mk (blk_below (g := gb123) (o := .cells #[.bool x124000_3, u124001] 33 (0, 0)) (by (with_reducible repeat (first | refine blk_drewN ?_ _ | refine blk_drew ?_ | refine blk_alloc ?_ _)); exact BK123.out) hb); have n5_ := Aside0.mk (below_step (by repeat (first | (with_reducible first | exact HB.out | apply below_alloc | apply pw_below_drewN | apply below_drew1 | refine below_set ?_ GE123.out) | exact HB.out)) hb); clear HO_4; clear HO_5; clear HO_9; clear HO_124001; clear BK123; clear HB; have HO_4 := n0_; have HO_5 := n1_; have HO_9 := n2_; have HO_124001 := n3_; have BK123 := n4_; have HB := n5_; clear n0_ n1_ n2_ n3_ n4_ n5_; (try clear hb); (try clear hb2); (try clear hk); (try clear hi)))
                                      have n0_ := Aside0.mk (Kd.S_drew HO_4.out)
                                      have n1_ := Aside0.mk (Kd.R_drew HO_5.out)
                                      have n2_ := Aside0.mk (Kd.R_drew HO_9.out)
                                      have n3_ := Aside0.mk (Kd.R_drew HO_124001.out)
                                      have n4_ := Aside0.mk (blk_drew BK123.out)
                                      have n5_ := Aside0.mk (below_drew1 HB.out)
                                      clear HO_4
                                      clear HO_5
                                      clear HO_9
                                      clear HO_124001
                                      clear BK123
                                      clear HB
                                      have HO_4 := n0_
                                      have HO_5 := n1_
                                      have HO_9 := n2_
                                      have HO_124001 := n3_
                                      have BK123 := n4_
                                      have HB := n5_
                                      clear n0_ n1_ n2_ n3_ n4_ n5_
                                      refine start_ (n := 8) (S := fun w' => w'.cell? ⟨gb123, 0, none⟩ = some (.bool x124000_3) ∧ w'.cell? ⟨gb123, 1, none⟩ = some (u124001)) (ds := [7]) #[false, false, false, false, false, false, false, false] (by kernel_rfl) rfl rfl ⟨(blk_cell BK123.out 0).trans rfl, (blk_cell BK123.out 1).trans rfl⟩ (fun hHeld => ?_); refine with_tabW depotref09_Parse.tab25 depotref09_Parse.bits25 (fun HT_ HW_ => ?_)
                                      generalize w39.drew = w40 at HO_4 HO_5 HO_9 HO_124001 BK123 HB hHeld ⊢
                                      refine pure_ (i := 0) (N := some 81) (v := ?_) (a' := ?_) #[true, false, false, false, false, false, false, false] rfl rfl (any_of HT_.out (by kernel_rfl)) (fun _ _ _ h => h) (Or.inl ⟨by rfl, ?_⟩) ?_ ?_
                                      rotate_left
                                      · intro w'
                                        go_simp
                                        with_reducible rfl
                                      rotate_left
                                      · simp only [Act.put, List.setIfInBounds_toArray, List.set_cons_zero, List.set_cons_succ, i64_w, i32_w]
                                        rfl
                                      refine pure_ (i := 2) (N := some 83) (v := ?_) (a' := ?_) #[true, false, true, false, false, false, false, false] rfl rfl (any_of HT_.out (by kernel_rfl)) (fun _ _ _ h => h) (Or.inl ⟨by rfl, ?_⟩) ?_ ?_
                                      rotate_left
                                      · intro w'
                                        go_simp
                                        with_reducible rfl
                                      rotate_left
                                      · simp only [Act.put, List.setIfInBounds_toArray, List.set_cons_zero, List.set_cons_succ, i64_w, i32_w]
                                        rfl
                                      refine take_ (i := 1) (N := some 82) (v := ?_) (a' := ?_) #[true, true, true, false, false, false, false, false] rfl rfl (take_ofW HT_.out HW_.out (by kernel_rfl)) (fun _ _ _ h => h) (Or.inl ⟨by rfl, ?_⟩) hHeld ?_ ?_
                                      rotate_left
                                      · rintro w' ⟨s0, s1⟩
                                        go_simp
                                        with_reducible rfl
                                      rotate_left
                                      · simp only [Act.put, List.setIfInBounds_toArray, List.set_cons_zero, List.set_cons_succ, i64_w, i32_w]
                                        rfl
                                      refine one_ (i := 3) (N := some 84) #[true, true, true, true, false, false, false, false] rfl rfl (one_of HT_.out (by kernel_rfl)) (by decide) (fun K hK => ?_)
                                      refine goes_ Tryd.func47 (by kernel_rfl) rfl #[.string (rdOf ByteArray.empty t129 x10_3)] (by rfl) rfl rfl (by (try simp only [List.map_toArray, List.map_cons, List.map_nil]); first | done | rfl | (simp only [List.length_drop, List.length_take]; rfl)) ?_
                                      with_reducible refine (depotref03_Value.calls (rdOf ByteArray.empty t129 x10_3) t137 _ ?side1 A37.out).mono ?_
                                      (case side1 => exact Env.below HE.out (by repeat (first | (with_reducible first | exact HB.out | apply below_alloc | apply pw_below_drewN | apply below_drew1 | refine below_set ?_ GE123.out) | exact HB.out)))
                                      rintro e w41 ⟨rfl, hb⟩
                                      refine ⟨_, rfl, ?_⟩
                                      have n0_ := Aside0.mk (Kd.S_below (by (with_reducible repeat (first | apply Kd.S_alloc | apply Kd.S_drewN | apply Kd.S_drew)); exact HO_4.out) hb)
                                      have n1_ := Aside0.mk (Kd.R_below (by (with_reducible repeat (first | apply Kd.R_alloc | apply Kd.R_drewN | apply Kd.R_drew)); exact HO_5.out) hb)
                                      have n2_ := Aside0.mk (Kd.R_below (by (with_reducible repeat (first | apply Kd.R_alloc | apply Kd.R_drewN | apply Kd.R_drew)); exact HO_9.out) hb)
                                      have n3_ := Aside0.mk (Kd.R_below (by (with_reducible repeat (first | apply Kd.R_alloc | apply Kd.R_drewN | apply Kd.R_drew)); exact HO_124001.out) hb)
                                      have n4_ := Aside0.mk (blk_below (g := gb123) (o := .cells #[.bool x124000_3, u124001] 33 (0, 0)) (by (with_reducible repeat (first | refine blk_drewN ?_ _ | refine blk_drew ?_ | refine blk_alloc ?_ _)); exact BK123.out) hb)
                                      have n5_ := Aside0.mk (below_step (by repeat (first | (with_reducible first | exact HB.out | apply below_alloc | apply pw_below_drewN | apply below_drew1 | refine below_set ?_ GE123.out) | exact HB.out)) hb)
                                      clear HO_4
                                      clear HO_5
                                      clear HO_9
                                      clear HO_124001
                                      clear BK123
                                      clear HB
                                      have HO_4 := n0_
                                      have HO_5 := n1_
                                      have HO_9 := n2_
                                      have HO_124001 := n3_
                                      have BK123 := n4_
                                      have HB := n5_
                                      clear n0_ n1_ n2_ n3_ n4_ n5_
                                      (try clear hb)
                                      (try clear hb2)
                                      (try clear hk)
                                      (try clear hi)
                                      refine hK.out _ _ ⟨(blk_cell BK123.out 0).trans rfl, (blk_cell BK123.out 1).trans rfl⟩ (fun hHeld => ?_)
                                      clear hK K
                                      refine norm_ (a' := ?_) ?_ ?_
                                      rotate_left
                                      · show Act.put _ (some 84) _ = _
                                        simp only [Act.put, List.setIfInBounds_toArray, List.set_cons_zero, List.set_cons_succ, i64_w, i32_w]
                                        rfl
                                      refine one_ (i := 4) (N := some 85) #[true, true, true, true, true, false, false, false] rfl rfl (one_of HT_.out (by kernel_rfl)) (by decide) (fun K hK => ?_)
                                      refine value_ (w1 := ?_) (v := ?_) (by rfl) rfl ?_ ?_
                                      rotate_left 2
                                      · go_simp
                                        constructor
                                        · rfl
                                        · rfl
                                      refine hK.out _ _ ⟨(blk_cell (blk_alloc BK123.out _) 0).trans rfl, (blk_cell (blk_alloc BK123.out _) 1).trans rfl⟩ (fun hHeld => ?_)
                                      clear hK K
                                      refine norm_ (a' := ?_) ?_ ?_
                                      rotate_left
                                      · show Act.put _ (some 85) _ = _
                                        simp only [Act.put, List.setIfInBounds_toArray, List.set_cons_zero, List.set_cons_succ, i64_w, i32_w]
                                        rfl
                                      refine one_ (i := 5) (N := some 86) #[true, true, true, true, true, true, false, false] rfl rfl (one_of HT_.out (by kernel_rfl)) (by decide) (fun K hK => ?_)
                                      refine Kd.R_append_step (Kd.int .i64) (w0 := w) w.heap.size (by rfl) (.tmp 82) (.tmp 85) 31 3 (.int .i64 0) 8 rfl Tryd.underlying31 info3 rfl (by decide) (by omega) u124001 x124001_3 t137 [.int .i64 t137] (fun _ => True) (fun _ => False) rfl rfl ?aP (fun _ hk => hk.elim) ?aF ?aO ?aB ?aS ?aL ?_
                                      (case aP => exact rfl)
                                      (case aB => exact (by repeat (first | (with_reducible first | exact HB.out | apply below_alloc | apply pw_below_drewN | apply below_drew1 | refine below_set ?_ GE123.out) | exact HB.out)))
                                      (case aF => exact (fun _ _ => trivial))
                                      (case aO => exact (by (with_reducible repeat (first | apply Kd.R_alloc | apply Kd.R_drewN | apply Kd.R_drew)); exact HO_124001.out))
                                      (case aS => exact (below_size (by repeat (first | (with_reducible first | exact HB.out | apply below_alloc | apply pw_below_drewN | apply below_drew1 | refine below_set ?_ GE123.out) | exact HB.out))))
                                      (case aL => have := LMc38.out; first | omega | exact Nat.le_of_lt this | exact this)
                                      intro v139 w42 ho hb hg hat
                                      rw [← Ny138.out] at ho
                                      have n0_ := Aside0.mk (Kd.S_after (ok := (fun k_ => k_ ≠ gb123)) (by (with_reducible repeat (first | apply Kd.S_alloc | apply Kd.S_drewN | apply Kd.S_drew)); exact Kd.S_mono HO_4.out (fun _ hk => ⟨hk.2, hk.1⟩)) hg hat)
                                      have n1_ := Aside0.mk (Kd.R_over' (by (with_reducible repeat (first | apply Kd.R_alloc | apply Kd.R_drewN | apply Kd.R_drew)); exact HO_5.out) (Kd.R_typed (by (with_reducible repeat (first | apply Kd.R_alloc | apply Kd.R_drewN | apply Kd.R_drew)); exact HO_124001.out)) (by decide) hg)
                                      have n2_ := Aside0.mk (Kd.R_over' (by (with_reducible repeat (first | apply Kd.R_alloc | apply Kd.R_drewN | apply Kd.R_drew)); exact HO_9.out) (Kd.R_typed (by (with_reducible repeat (first | apply Kd.R_alloc | apply Kd.R_drewN | apply Kd.R_drew)); exact HO_124001.out)) (by decide) hg)
                                      have n3_ := Aside0.mk (blk_grown (g := gb123) (o := .cells #[.bool x124000_3, u124001] 33 (0, 0)) (by (with_reducible repeat (first | refine blk_drewN ?_ _ | refine blk_drew ?_ | refine blk_alloc ?_ _)); exact BK123.out) hg (Kd.R_ne HO_124001.out BK123.out (by decide)))
                                      have n4_ := Aside0.mk (hb)
                                      have n5_ := Aside0.mk (ho)
                                      clear HO_4
                                      clear HO_5
                                      clear HO_9
                                      clear BK123
                                      clear HB
                                      clear HO_124001
                                      have HO_4 := n0_
                                      have HO_5 := n1_
                                      have HO_9 := n2_
                                      have BK123 := n3_
                                      have HB := n4_
                                      have HO140 := n5_
                                      clear n0_ n1_ n2_ n3_ n4_ n5_
                                      clear ho hb hg hat
                                      obtain ⟨Ao43, co43, eo43⟩ := Kd.R_slice HO140.out
                                      (first | subst eo43 | (injection eo43 with f1_ f2_ f3_; have f4_ := f1_.symm; have f5_ := f3_.symm; clear f1_ f2_ f3_; subst f4_; subst f5_))
                                      refine hK.out _ _ ⟨(blk_cell BK123.out 0).trans rfl, (blk_cell BK123.out 1).trans rfl⟩ (fun hHeld => ?_)
                                      clear hK K
                                      refine norm_ (a' := ?_) ?_ ?_
                                      rotate_left
                                      · show Act.put _ (some 86) _ = _
                                        simp only [Act.put, List.setIfInBounds_toArray, List.set_cons_zero, List.set_cons_succ, i64_w, i32_w]
                                        rfl
                                      refine pure_ (i := 6) (N := some 87) (v := ?_) (a' := ?_) #[true, true, true, true, true, true, true, false] rfl rfl (any_of HT_.out (by kernel_rfl)) (fun _ _ _ h => h) (Or.inl ⟨by rfl, ?_⟩) ?_ ?_
                                      rotate_left
                                      · intro w'
                                        go_simp
                                        with_reducible rfl
                                      rotate_left
                                      · simp only [Act.put, List.setIfInBounds_toArray, List.set_cons_zero, List.set_cons_succ, i64_w, i32_w]
                                        rfl
                                      refine last_ (i := 7) (N := none) #[true, true, true, true, true, true, true, true] rfl rfl (one_of HT_.out (by kernel_rfl)) (by decide) (fun K hK => ?_)
                                      have hs44 : w42.cell? ⟨gb123, 1, none⟩ = some (u124001) := (blk_cell BK123.out 1).trans rfl
                                      have hfs44 := blk_frozen BK123.out 1
                                      refine skip_ (w1 := ?_) (by rfl) rfl ?_ ?_
                                      rotate_left
                                      · go_simp
                                        rfl
                                      refine hK.out _ _ ?_
                                      clear hK K
                                      refine done_ (done_of HT_.out (by kernel_rfl)) ?_
                                      try go_wp2
                                      go_roundg kj23
                                      case measure => have := HK1.out; have := HJ6.out; have := HK3.out; have := HJ23.out; omega
                                      case rel => exact ⟨(x4_3), (true), (wrap64 (x10_3 + 1)), (x124000_3), (y138), (.slice Ao43 y138.length co43), (by first | rfl | (simp; done) | (simp [*]; done)), (by first | rfl | (simp; done) | (simp [*]; done)), H', ⟨by have := HK1.out; have := HJ6.out; have := HK3.out; have := HJ23.out; omega⟩, ⟨by (with_reducible repeat (first | apply Kd.S_alloc | apply Kd.S_drewN | apply Kd.S_drew)); exact Kd.S_mono (Kd.S_far (p := ⟨gb123, 1, none⟩) (Kd.S_mono HO_4.out (fun k_ hk => (⟨hk, hk.1⟩ : _ ∧ k_ ≠ gb123))) (fun _ hk => hk.2) (.slice Ao43 y138.length co43)) (fun _ hk => ⟨hk.1.2, hk.1.1⟩)⟩, ⟨by (with_reducible repeat (first | apply Kd.R_alloc | apply Kd.R_drewN | apply Kd.R_drew)); exact Kd.R_mono (Kd.R_far (p := ⟨gb123, 1, none⟩) (Kd.R_types HO_5.out BK123.out (by decide)) (fun _ hk => hk.2) (.slice Ao43 y138.length co43)) (fun _ hk => hk.1)⟩, ⟨by (with_reducible repeat (first | apply Kd.R_alloc | apply Kd.R_drewN | apply Kd.R_drew)); exact Kd.R_mono (Kd.R_far (p := ⟨gb123, 1, none⟩) (Kd.R_types HO_9.out BK123.out (by decide)) (fun _ hk => hk.2) (.slice Ao43 y138.length co43)) (fun _ hk => hk.1)⟩, ⟨by (with_reducible repeat (first | apply Kd.R_alloc | apply Kd.R_drewN | apply Kd.R_drew)); exact Kd.R_mono (Kd.R_far (p := ⟨gb123, 1, none⟩) (Kd.R_types HO140.out BK123.out (by decide)) (fun _ hk => hk.2) (.slice Ao43 y138.length co43)) (fun _ hk => trivial)⟩, ⟨by (with_reducible repeat (first | refine blk_drewN ?_ _ | refine blk_drew ?_ | refine blk_alloc ?_ _)); refine blk_put (cs := #[.bool x124000_3, u124001]) ?_ 1 _ rfl; (with_reducible repeat (first | refine blk_drewN ?_ _ | refine blk_drew ?_ | refine blk_alloc ?_ _)); exact BK123.out⟩, ⟨by repeat (first | (with_reducible first | exact HB.out | apply below_alloc | apply pw_below_drewN | apply below_drew1 | refine below_set ?_ GE123.out) | exact HB.out)⟩⟩
                                    · rw [if_neg c38] at H
                                      exact absurd H (by simp)
                                  · replace c36 := Bool.eq_false_iff.mpr c36
                                    subst c36
                                    have H1 : (some (x4_3, wrap64 (x8_1 + 1))) = some (r1, r2) := by rw [if_neg (show ¬ (false = true) by decide)] at H; exact H
                                    clear H
                                    have H := H1
                                    clear H1
                                    simp only [Option.some.injEq, Prod.mk.injEq] at H
                                    obtain ⟨rfl, rfl⟩ := H
                                    go_wp2_with (first | ((with_reducible refine gate_callee (f := 46) rfl ?_); refine goesL_ (some 80) rfl rfl Tryd.func46 (by kernel_rfl) rfl #[.string (rdOf ByteArray.empty t129 x10_3)] rfl (by (try simp only [List.map_toArray, List.map_cons, List.map_nil]); first | done | rfl | (simp only [List.length_drop, List.length_take]; rfl)) ?_; (with_reducible refine (depotref09_literal.calls kj23 (rdOf ByteArray.empty t129 x10_3) false _ ?side1 A35.out).mono ?_); (case side1 => exact Env.below HE.out (by repeat (first | (with_reducible first | exact HB.out | apply below_alloc | apply pw_below_drewN | apply below_drew1 | refine below_set ?_ GE123.out) | exact HB.out))); rintro e w45 ⟨rfl, hb⟩; refine ⟨_, rfl, ?_⟩; have n0_ := Aside0.mk (Kd.S_below (by (with_reducible repeat (first | apply Kd.S_alloc | apply Kd.S_drewN | apply Kd.S_drew)); exact HO_4.out) hb); have n1_ := Aside0.mk (Kd.R_below (by (with_reducible repeat (first | apply Kd.R_alloc | apply Kd.R_drewN | apply Kd.R_drew)); exact HO_5.out) hb); have n2_ := Aside0.mk (Kd.R_below (by (with_reducible repeat (first | apply Kd.R_alloc | apply Kd.R_drewN | apply Kd.R_drew)); exact HO_9.out) hb); have n3_ := Aside0.mk (Kd.R_below (by (with_reducible repeat (first | apply Kd.R_alloc | apply Kd.R_drewN | apply Kd.R_drew)); exact HO_124001.out) hb); have n4_ := Aside0.mk (blk_below (g := gb123) (o := .cells #[.bool x124000_3, u124001] 33 (0, 0)) (by (with_reducible repeat (first | refine blk_drewN ?_ _ | refine blk_drew ?_ | refine blk_alloc ?_ _)); exact BK123.out) hb); have n5_ := Aside0.mk (below_step (by repeat (first | (with_reducible first | exact HB.out | apply below_alloc | apply pw_below_drewN | apply below_drew1 | refine below_set ?_ GE123.out) | exact HB.out)) hb); clear HO_4; clear HO_5; clear HO_9; clear HO_124001; clear BK123; clear HB; have HO_4 := n0_; have HO_5 := n1_; have HO_9 := n2_; have HO_124001 := n3_; have BK123 := n4_; have HB := n5_; clear n0_ n1_ n2_ n3_ n4_ n5_; (try clear hb); (try clear hb2); (try clear hk); (try clear hi)))
                                    go_ret2
                                    exact ⟨_, by first | rfl | (simp [errW_none, errW_some] <;> rfl) | (simp [*, errW_none, errW_some] <;> rfl), by (with_reducible repeat (first | apply Kd.S_alloc | apply Kd.S_drewN | apply Kd.S_drew)); exact Kd.S_mono HO_4.out (fun _ hk => trivial), by repeat (first | (with_reducible first | exact HB.out | apply below_alloc | apply pw_below_drewN | apply below_drew1 | refine below_set ?_ GE123.out) | exact HB.out)⟩
                        · rw [if_neg c23] at H
                          exact absurd H (by simp)
                      · rw [if_neg c22] at H
                        have c22b0 : decide (x10_3 < (t129.length : Int)) = false := decide_eq_false c22
                        clear c22
                        have H' := Aside0.mk H
                        clear H
                        obtain ⟨Ao46, co46, eo46⟩ := Kd.R_slice HO_9.out
                        subst eo46
                        go_wp2
                        go_roundg k3
                        case measure => have := HK1.out; have := HJ6.out; have := HK3.out; omega
                        case rel => exact ⟨(x4_3), (x6_3), (wrap64 (x8_1 + 1)), (x124000_3), (x124001_3), (u124001), (by first | rfl | (simp; done) | (simp [*]; done)), (by first | rfl | (simp; done) | (simp [*]; done)), H', ⟨by have := HK1.out; have := HJ6.out; have := HK3.out; omega⟩, ⟨by (with_reducible repeat (first | apply Kd.S_alloc | apply Kd.S_drewN | apply Kd.S_drew)); exact HO_4.out⟩, ⟨by (with_reducible repeat (first | apply Kd.R_alloc | apply Kd.R_drewN | apply Kd.R_drew)); exact Kd.R_mono HO_5.out (fun _ hk => trivial)⟩, ⟨by (with_reducible repeat (first | apply Kd.R_alloc | apply Kd.R_drewN | apply Kd.R_drew)); exact HO_124001.out⟩, ⟨by (with_reducible repeat (first | refine blk_drewN ?_ _ | refine blk_drew ?_ | refine blk_alloc ?_ _)); exact BK123.out⟩, ⟨by repeat (first | (with_reducible first | exact HB.out | apply below_alloc | apply pw_below_drewN | apply below_drew1 | refine below_set ?_ GE123.out) | exact HB.out)⟩⟩
                · rw [if_neg c19] at H
                  exact absurd H (by simp)
              · rw [if_neg c18] at H
                exact absurd H (by simp)
      · rw [if_neg c6] at H
        have c6b0 : decide (x8_1 < (t120.length : Int)) = false := decide_eq_false c6
        clear c6
        by_cases c47 : x6_1 = true
        · subst c47
          have H1 : (some (x4_1, wrap64 ((t120.length : Int) + 1))) = some (r1, r2) := by rw [if_pos rfl] at H; exact H
          clear H
          have H := H1
          clear H1
          simp only [Option.some.injEq, Prod.mk.injEq] at H
          obtain ⟨rfl, rfl⟩ := H
          obtain ⟨Ao48, co48, eo48⟩ := Kd.R_slice HO_5.out
          subst eo48
          go_wp2
          go_ret2
          exact ⟨_, by first | rfl | (simp [errW_none, errW_some] <;> rfl) | (simp [*, errW_none, errW_some] <;> rfl), by (with_reducible repeat (first | apply Kd.S_alloc | apply Kd.S_drewN | apply Kd.S_drew)); exact Kd.S_mono HO_4.out (fun _ hk => trivial), by repeat (first | (with_reducible first | exact HB.out | apply below_alloc | apply pw_below_drewN | apply below_drew1 | refine below_set ?_ GE123.out) | exact HB.out)⟩
        · replace c47 := Bool.eq_false_iff.mpr c47
          subst c47
          have H1 : (some (x4_1, 0)) = some (r1, r2) := by rw [if_neg (show ¬ (false = true) by decide)] at H; exact H
          clear H
          have H := H1
          clear H1
          simp only [Option.some.injEq, Prod.mk.injEq] at H
          obtain ⟨rfl, rfl⟩ := H
          obtain ⟨Ao49, co49, eo49⟩ := Kd.R_slice HO_5.out
          subst eo49
          go_wp2
          go_ret2
          exact ⟨_, by first | rfl | (simp [errW_none, errW_some] <;> rfl) | (simp [*, errW_none, errW_some] <;> rfl), by (with_reducible repeat (first | apply Kd.S_alloc | apply Kd.S_drewN | apply Kd.S_drew)); exact Kd.S_mono HO_4.out (fun _ hk => trivial), by repeat (first | (with_reducible first | exact HB.out | apply below_alloc | apply pw_below_drewN | apply below_drew1 | refine below_set ?_ GE123.out) | exact HB.out)⟩

end Go.Proofs.YtooojhlndlebdaaRRRDoorRRRR.R
end
section
set_option linter.unusedVariables false
set_option linter.unusedSimpArgs false
namespace Go.Proofs.YtooojhlndlebdaaRRRDoorRRRR.R
open Go.RowKit Go.Lib Go.Proofs.YtooojhlndlebdaaRRRDoorRRRRW.PrintWords Go.Proofs.YtooojhlndlebdaaRRRDoorRRRRW.PrintLast Go.Proofs.YtooojhlndlebdaaRRRDoorRRRRW.PrintMore

/-- A reader's state: the steps that are ended, is one begun, and that one. -/
structure St where
  steps : List S33
  begun : Bool
  drop : Bool
  lits : List Int
def st0 : St := ⟨[], false, false, []⟩
/-- The next word. -/
def takeF (st : St) (w : ByteArray) : Option St :=
  if w.toList = [100] ∧ st.begun = false then some ⟨st.steps, true, true, st.lits⟩
  else if w.toList = [48] then some ⟨st.steps ++ [⟨st.drop, st.lits⟩], false, false, []⟩
  else match litN w.data.toList with
    | some n => some ⟨st.steps, true, st.drop, st.lits ++ [n]⟩
    | none => none
def takesF (st : St) : List ByteArray → St × Bool
  | [] => (st, true)
  | w :: r => match takeF st w with
    | some st' => takesF st' r
    | none => (st, false)
def lineF (st : St) (l : List UInt8) : St × Bool :=
  if hasPrefix l [99] then (st, remF (mk_ l)) else takesF st (wordsB (mk_ l))
def linesF : List (List UInt8) → Nat → St → St × Nat
  | [], n, st => (st, if st.begun then n + 1 else 0)
  | l :: r, n, st => if (lineF st l).2 then linesF r (n + 1) (lineF st l).1 else ((lineF st l).1, n + 1)
def readF (s : ByteArray) : St × Nat := linesF (linesL s.size s.data.toList) 0 st0

theorem spansB_length (s : ByteArray) (d : Nat) : ∀ (pos : Nat) (st : Option Nat) (acc : List (Nat × Nat)), (spansB s d pos st acc).1.length ≤ acc.length + d := by
  induction d with
  | zero => intro pos st acc; exact Nat.le_refl _
  | succ d ih =>
    intro pos st acc
    cases hb : blankR (by_ s pos) with
    | true =>
      rw [spansB_blank hb]
      refine Nat.le_trans (ih _ _ _) ?_
      cases st <;> simp <;> omega
    | false =>
      rw [spansB_word hb]
      exact Nat.le_trans (ih _ _ _) (by omega)
theorem wordsB_length (s : ByteArray) : (wordsB s).length ≤ s.size + 1 := by
  unfold wordsB closeSpans
  have := spansB_length s s.size 0 none []
  rw [List.length_map]
  split
  · rw [List.length_append]; simp at this ⊢; omega
  · simp at this; omega
theorem wordsB_size (s : ByteArray) : ∀ w ∈ wordsB s, w.size ≤ s.size := by
  intro w hw
  unfold wordsB at hw
  obtain ⟨x, _, rfl⟩ := List.mem_map.1 hw
  simp
  omega
theorem cut_length (l : List UInt8) : (cut l [10]).1.length ≤ l.length ∧ (cut l [10]).2.1.length ≤ l.length := by
  unfold cut
  split
  · simp only [List.length_take, List.length_drop]; omega
  · simp
theorem linesL_mem (n : Nat) : ∀ (l : List UInt8), ∀ x ∈ linesL n l, x.length ≤ l.length := by
  induction n with
  | zero => intro l x hx; simp [linesL] at hx
  | succ n ih =>
    intro l x hx
    rw [linesL] at hx
    split at hx
    · cases hx
    · have hc := cut_length l
      rcases List.mem_cons.1 hx with rfl | hx
      · exact hc.1
      · exact Nat.le_trans (ih _ x hx) hc.2
theorem linesL_length (n : Nat) : ∀ (l : List UInt8), (linesL n l).length ≤ n := by
  induction n with
  | zero => intro l; simp [linesL]
  | succ n ih =>
    intro l
    rw [linesL]
    split
    · simp
    · have := ih (cut l [10]).2.1
      simp only [List.length_cons]
      omega
theorem takeF_length {st st' : St} {w : ByteArray} (h : takeF st w = some st') : st'.steps.length ≤ st.steps.length + 1 ∧ st'.lits.length ≤ st.lits.length + 1 := by
  unfold takeF at h
  split at h
  · obtain rfl := Option.some.inj h; simp
  · split at h
    · obtain rfl := Option.some.inj h; simp
    · split at h
      · obtain rfl := Option.some.inj h; simp
      · cases h
theorem takesF_length (ws : List ByteArray) : ∀ st : St, (takesF st ws).1.steps.length ≤ st.steps.length + ws.length ∧ (takesF st ws).1.lits.length ≤ st.lits.length + ws.length := by
  induction ws with
  | nil => intro st; simp [takesF]
  | cons w r ih =>
    intro st
    simp only [takesF]
    cases h : takeF st w with
    | none => simp
    | some st' =>
      have h1 := takeF_length h
      have h2 := ih st'
      simp only [List.length_cons]
      omega

/-- The reference's words of one line. -/
theorem parse_l1 (lines : List ByteArray) (t M : Nat) (ht : t < lines.length) (hlines : lines.length ≤ 1048576) (ws : List ByteArray) (hw : ∀ w ∈ ws, w.size ≤ M) (hM : M ≤ 1048576) (hwl : ws.length ≤ 1048577) (K : Nat) (hK : M + 3 ≤ K) (r : St → Option (List S33 × Int))
    (A : Nat) (hA : A ≤ 2000000000000) (hr : ∀ st : St, st.steps.length ≤ A + ws.length → st.lits.length ≤ A + ws.length → ∀ k, K < k → depotref09_Parse.l0 k st.steps lines st.begun ((t : Int) + 1) st.drop st.lits = r st) (d : Nat) :
    ∀ (k j : Nat) (st : St), j ≤ ws.length → ws.length - j = d → 2 * d + K + 1 < k → st.steps.length ≤ A + j → st.lits.length ≤ A + j →
      depotref09_Parse.l1 k st.steps lines st.begun (t : Int) ws (j : Int) st.drop st.lits = (if (takesF st (ws.drop j)).2 then r (takesF st (ws.drop j)).1 else some ((takesF st (ws.drop j)).1.steps, (t : Int) + 1)) := by
  induction d with
  | zero =>
    intro k j st h0 hd hk h1 h2
    obtain ⟨k, rfl⟩ := succ_ofr hk
    rw [depotref09_Parse.l1, if_neg (by omega), List.drop_of_length_le (by omega), w64r (by omega) (by omega)]
    simp only [takesF, if_true]
    exact hr st (by omega) (by omega) k (by omega)
  | succ d ih =>
    intro k j st h0 hd hk h1 h2
    obtain ⟨k, rfl⟩ := succ_ofr hk
    obtain ⟨k, rfl⟩ := succ_ofr (show 2 * d + K + 2 < k by omega)
    have hj : j < ws.length := by omega
    have hws := hw ws[j] (List.getElem_mem hj)
    have E1 := Aside0.mk (show wrap64 ((j : Int) + 1) = ((j + 1 : Nat) : Int) by rw [w64r (by omega) (by omega)]; omega)
    have ewj : rdOf ByteArray.empty ws (j : Int) = ws[j] := by
      unfold rdOf
      rw [Int.toNat_natCast, List.getD_eq_getElem?_getD, List.getElem?_eq_getElem hj]
      rfl
    rw [depotref09_Parse.l1, if_pos (by omega), if_pos (by omega), ewj, List.drop_eq_getElem_cons hj]
    have next : ∀ st', takeF st ws[j] = some st' → ∀ k, 2 * d + K + 1 < k → depotref09_Parse.l1 k st'.steps lines st'.begun (t : Int) ws ((j + 1 : Nat) : Int) st'.drop st'.lits = (if (takesF st (ws[j] :: ws.drop (j + 1))).2 then r (takesF st (ws[j] :: ws.drop (j + 1))).1 else some ((takesF st (ws[j] :: ws.drop (j + 1))).1.steps, (t : Int) + 1)) := by
      intro st' h k hk
      have hl := takeF_length h
      simp only [takesF, h]
      exact ih k (j + 1) st' (by omega) (by omega) hk (by omega) (by omega)
    have other : ¬ (ws[j].toList = [100] ∧ st.begun = false) → depotref09_Parse.j3 (k + 1) st.steps lines (t : Int) ws (j : Int) ws[j] false st.drop st.lits = (if (takesF st (ws[j] :: ws.drop (j + 1))).2 then r (takesF st (ws[j] :: ws.drop (j + 1))).1 else some ((takesF st (ws[j] :: ws.drop (j + 1))).1.steps, (t : Int) + 1)) := by
      intro hno
      rw [depotref09_Parse.j3, if_neg (by decide)]
      by_cases h48 : ws[j].toList = [48]
      · have ht : takeF st ws[j] = some ⟨st.steps ++ [⟨st.drop, st.lits⟩], false, false, []⟩ := by unfold takeF; rw [if_neg hno, if_pos h48]
        rw [if_pos h48, if_pos (by omega), E1.out]
        exact next _ ht k (by omega)
      · rw [if_neg h48]
        obtain ⟨hl1, hl2⟩ := literal_is ws[j] (by omega) k (by omega)
        rw [hl1]
        simp only [Option.bind_some]
        cases hn : litN ws[j].data.toList with
        | none =>
          have ht : takeF st ws[j] = none := by unfold takeF; rw [if_neg hno, if_neg h48, hn]
          simp only [Option.isSome_none, Bool.false_eq_true, if_false, takesF, ht]
          rw [w64r (by omega) (by omega)]
        | some n =>
          have ht : takeF st ws[j] = some ⟨st.steps, true, st.drop, st.lits ++ [n]⟩ := by unfold takeF; rw [if_neg hno, if_neg h48, hn]
          simp only [Option.isSome_some, if_true]
          rw [hl2 n hn]
          simp only [Option.bind_some]
          rw [if_pos (by omega), E1.out]
          exact next _ ht k (by omega)
    by_cases h100 : ws[j].toList = [100]
    · rw [if_pos h100]
      cases hb : st.begun with
      | false =>
        have ht : takeF st ws[j] = some ⟨st.steps, true, true, st.lits⟩ := by unfold takeF; rw [if_pos ⟨h100, hb⟩]
        rw [Bool.not_false, depotref09_Parse.j3, if_pos rfl, E1.out]
        exact next _ ht k (by omega)
      | true =>
        rw [Bool.not_true]
        exact other (fun h => by rw [hb] at h; cases h.2)
    · rw [if_neg h100]
      exact other (fun h => h100 h.1)

theorem prefix_iff (l : List UInt8) : hasPrefix l [99] = true ↔ l.head? = some 99 := by
  unfold hasPrefix
  cases l with
  | nil => simp
  | cons b t =>
    simp only [List.isPrefixOf, Bool.and_true, beq_iff_eq, List.head?_cons, Option.some.injEq]
    exact eq_comm
theorem mk_size (l : List UInt8) : (mk_ l).size = l.length := by unfold mk_; rfl
def bd (t : Nat) : Nat := t * 1048578
theorem bd_succ (t : Nat) : bd (t + 1) = bd t + 1048578 := Nat.succ_mul t 1048578
theorem bd_le {t : Nat} (h : t ≤ 1048576) : bd t ≤ 1999990000000 := Nat.le_trans (Nat.mul_le_mul_right _ h) (by decide)
theorem bd_zero : bd 0 = 0 := Nat.zero_mul _
def fu (t : Nat) : Nat := t * 4000000
theorem fu_succ (t : Nat) : fu (t + 1) = fu t + 4000000 := Nat.succ_mul t 4000000
theorem fu_le {t : Nat} (h : t ≤ 1048576) : fu t ≤ 4194304000000 := Nat.le_trans (Nat.mul_le_mul_right _ h) (by decide)
theorem parse_l0 (LL : List (List UInt8)) (hL : ∀ x ∈ LL, x.length ≤ 1048576) (hn : LL.length ≤ 1048576) (d : Nat) : ∀ (k t : Nat) (st : St), t ≤ LL.length → LL.length - t = d → fu d + 3 < k → st.steps.length ≤ bd t → st.lits.length ≤ bd t →
    depotref09_Parse.l0 k st.steps (LL.map mk_) st.begun (t : Int) st.drop st.lits = some ((linesF (LL.drop t) t st).1.steps, ((linesF (LL.drop t) t st).2 : Int)) := by
  have hml : (LL.map mk_).length = LL.length := List.length_map ..
  induction d with
  | zero =>
    intro k t st h0 hd hk h1 h2
    obtain ⟨k, rfl⟩ := succ_ofr hk
    rw [depotref09_Parse.l0, if_neg (by omega), List.drop_of_length_le (by omega)]
    simp only [linesF]
    cases hb : st.begun with
    | true =>
      rw [if_pos rfl, if_pos rfl, w64r (by omega) (by omega), hml, show LL.length = t by omega]
      rfl
    | false => rw [if_neg (by decide), if_neg (by decide)]; rfl
  | succ d ih =>
    intro k t st h0 hd hk h1 h2
    have hkk : fu (d + 1) = fu d + 4000000 := fu_succ d
    obtain ⟨k, rfl⟩ := succ_ofr hk
    obtain ⟨k, rfl⟩ := succ_ofr (show fu d + 3999000 < k by omega)
    have ht : t < LL.length := by omega
    have hx := hL LL[t] (List.getElem_mem ht)
    have htm : bd t ≤ 1999990000000 := bd_le (by omega)
    have hts : bd (t + 1) = bd t + 1048578 := bd_succ t
    have EL := Aside0.mk (show rdOf ByteArray.empty (LL.map mk_) (t : Int) = mk_ LL[t] by
      unfold rdOf
      rw [Int.toNat_natCast, List.getD_eq_getElem?_getD, List.getElem?_map, List.getElem?_eq_getElem ht]
      rfl)
    have E1 := Aside0.mk (show wrap64 ((t : Int) + 1) = ((t + 1 : Nat) : Int) by rw [w64r (by omega) (by omega)]; omega)
    have hsz := mk_size LL[t]
    have on : hasPrefix LL[t] [99] = true → depotref09_Parse.j1 (k + 1) st.steps (LL.map mk_) st.begun (t : Int) true st.drop st.lits = some ((linesF (LL[t] :: LL.drop (t + 1)) t st).1.steps, ((linesF (LL[t] :: LL.drop (t + 1)) t st).2 : Int)) := by
      intro hp
      have e : lineF st LL[t] = (st, remF (mk_ LL[t])) := by unfold lineF; rw [if_pos hp]
      rw [depotref09_Parse.j1, if_pos rfl, if_pos (by omega), if_pos (by omega), EL.out, refRemark_is _ (by omega) _ (by omega)]
      simp only [Option.bind_some, linesF, e]
      cases hr : remF (mk_ LL[t]) with
      | true =>
        rw [if_pos rfl, if_pos rfl, E1.out]
        exact ih k (t + 1) st (by omega) (by omega) (by omega) (by omega) (by omega)
      | false => rw [if_neg (by decide), if_neg (by decide), E1.out]
    have off : hasPrefix LL[t] [99] = false → depotref09_Parse.j1 (k + 1) st.steps (LL.map mk_) st.begun (t : Int) false st.drop st.lits = some ((linesF (LL[t] :: LL.drop (t + 1)) t st).1.steps, ((linesF (LL[t] :: LL.drop (t + 1)) t st).2 : Int)) := by
      intro hp
      have e : lineF st LL[t] = takesF st (wordsB (mk_ LL[t])) := by unfold lineF; rw [if_neg (by rw [hp]; decide)]
      have hwl := wordsB_length (mk_ LL[t])
      rw [depotref09_Parse.j1, if_neg (by decide), if_pos (by omega), if_pos (by omega), EL.out, words_is _ (by omega) _ (by omega)]
      simp only [Option.bind_some]
      have key := parse_l1 (LL.map mk_) t 1048576 (by omega) (by omega) (wordsB (mk_ LL[t])) (fun w hw => by have := wordsB_size _ w hw; omega) (by omega) (by omega) (fu d + 3 + 1048579) (by omega) (fun st => some ((linesF (LL.drop (t + 1)) (t + 1) st).1.steps, ((linesF (LL.drop (t + 1)) (t + 1) st).2 : Int))) (bd t) (by omega)
        (fun st' a b k hk => by
          have := ih k (t + 1) st' (by omega) (by omega) (by omega) (by omega) (by omega)
          rw [← this]
          rfl) (wordsB (mk_ LL[t])).length k 0 st (by omega) (by omega) (by omega) (by omega) (by omega)
      rw [List.drop_zero] at key
      refine key.trans ?_
      simp only [linesF, e]
      cases (takesF st (wordsB (mk_ LL[t]))).2 with
      | true => rw [if_pos rfl, if_pos rfl]
      | false => rw [if_neg (by decide), if_neg (by decide)]; rfl
    rw [depotref09_Parse.l0, if_pos (by omega), if_pos (by omega), EL.out, List.drop_eq_getElem_cons ht]
    by_cases h0' : ((mk_ LL[t]).size : Int) > 0
    · rw [if_pos h0', if_pos h0']
      obtain ⟨c, r, hcr⟩ := List.exists_cons_of_ne_nil (show LL[t] ≠ [] by intro h; have hh := congrArg List.length h; rw [List.length_nil] at hh; omega)
      have hb := bt_head (mk_ LL[t]) (c := c) (r := r) hcr
      rw [hb]
      by_cases hc : c = 99
      · have hp : hasPrefix LL[t] [99] = true := (prefix_iff _).2 (by rw [hcr, hc]; rfl)
        have : ((c.toNat : Int) == 99) = true := by rw [hc]; rfl
        rw [this]
        exact on hp
      · have hp : hasPrefix LL[t] [99] = false := by
          cases h : hasPrefix LL[t] [99] with
          | false => rfl
          | true =>
            have := (prefix_iff _).1 h
            rw [hcr] at this
            exact absurd (Option.some.inj this) hc
        have : ((c.toNat : Int) == 99) = false := by
          apply beq_eq_false_iff_ne.2
          intro e
          apply hc
          apply UInt8.toNat_inj.1
          have e99 : (99 : UInt8).toNat = 99 := rfl
          omega
        rw [this]
        exact off hp
    · rw [if_neg h0']
      refine off ?_
      have : LL[t] = [] := List.eq_nil_of_length_eq_zero (by omega)
      rw [this]
      rfl
theorem parse_is (s : ByteArray) (hs : s.size ≤ 1048576) (k : Nat) (hk : 4194304000010 < k) : depotref09_Parse.f k s = some ((readF s).1.steps, ((readF s).2 : Int)) := by
  have hsz : s.data.toList.length = s.size := by simp
  have hl := linesL_length s.size s.data.toList
  unfold depotref09_Parse.f
  rw [lines_is s (by omega) k (by omega)]
  simp only [Option.bind_some]
  have hf := fu_le (t := (linesL s.size s.data.toList).length) (by omega)
  exact parse_l0 (linesL s.size s.data.toList) (fun x hx => by have := linesL_mem _ _ x hx; omega) (by omega) (linesL s.size s.data.toList).length k 0 st0 (by omega) (by omega) (by omega) (by simp [st0]) (by simp [st0])
end Go.Proofs.YtooojhlndlebdaaRRRDoorRRRR.R
end
