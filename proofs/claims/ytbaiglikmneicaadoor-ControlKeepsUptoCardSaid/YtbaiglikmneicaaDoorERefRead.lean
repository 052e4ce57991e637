/- Lean functions of the Go functions that the laws of this seat reach, and the proof that each call comes to them: written by a program of this session (wip/printx.sh) over the kit's print. No conditions. Lean functions of the Go functions that the laws of this seat reach, and the proof that each call comes to them: written by a program of this session (wip/printx.sh) over the kit's print. No conditions. The reference's colon and Lines: what they come to. No conditions. The reference's put: what it comes to. No conditions. The reference's put: the walk. No conditions. The reference's Read: what it comes to, for every text of at most 2147483640 bytes. No conditions. The reference's Read: the walk, for every text of at most 2147483640 bytes. No conditions. -/
import Derived.Test.YtbaiglikmneicaaDoorProg
import Derived.Below
import Derived.Deep.Draws
import Derived.Deep.AppendLies
import Derived.Maps.AppendAt
import Derived.OwnWalk
import Derived.Laws.BytesArg
import Derived.Laws.MakeOwn
import Derived.Laws.OwnMore
import Derived.Deep.OwnRows
import Derived.Tactics
import Derived.Lib.ConvBytes
import Derived.Laws.Slices
import Derived.WalkKit
import Derived.KernelRfl
import Derived.RowKit3
import Derived.Deep.LoopGhost
import Derived.Deep.QuietTactic
import Derived.BigQuiet
import Derived.WideLaws
import Derived.Deep.DeepCutAuto
import Derived.Deep.CutBlock
import Derived.Deep.RegionHeld3
import Derived.Laws.Rows
import Derived.Lib.AppendStr
import Derived.ArgAppend
import Derived.Laws.IdiomCopy
import Derived.OrdersHeld
import Derived.Laws.BitsLemmas
import Derived.RowKit
import Derived.Test.YtbaiglikmneicaaDoorWK
import Derived.Test.YtbaiglikmneicaaDoorPureGets
import Derived.Test.YtbaiglikmneicaaDoorPureL
import Derived.Test.YtbaiglikmneicaaDoorRefK
import Derived.Test.YtbaiglikmneicaaDoorERefValue
import Derived.Test.YtbaiglikmneicaaDoorEReadC
import Derived.Lib.BufferWrite
section
namespace Go.Proofs.YtbaiglikmneicaaDoor.X
open Go.RowKit Go.Proofs.YtbaiglikmneicaaDoorW.PrintWords Go.Proofs.YtbaiglikmneicaaDoorW.PrintLast Go.Proofs.YtbaiglikmneicaaDoorW.PrintMore
attribute [local go_sem] max2_int min2_int max_two min_two max_three min_three max_four min_four   -- for this text's walks alone
set_option linter.unusedVariables false
set_option linter.unusedSimpArgs false

def errW : Option Int → Value
  | none => .nilIface
  | some c => .iface 0 (.int .i64 c)
theorem errW_none : errW none = .nilIface := rfl
theorem errW_some (c : Int) : errW (some c) = .iface 0 (.int .i64 c) := rfl

theorem info9 : (Tryd.prog.info? 9).map (fun i => (i.zero, i.size, i.bytes)) = some (some (.string ⟨#[]⟩), 1, 16) := by kernel_rfl
-- the values' own types

end Go.Proofs.YtbaiglikmneicaaDoor.X
end
section
namespace Go.Proofs.YtbaiglikmneicaaDoor.X
open Go.RowKit Go.Proofs.YtbaiglikmneicaaDoorW.PrintWords Go.Proofs.YtbaiglikmneicaaDoorW.PrintLast Go.Proofs.YtbaiglikmneicaaDoorW.PrintMore
attribute [local go_sem] max2_int min2_int max_two min_two max_three min_three max_four min_four   -- for this text's walks alone
set_option linter.unusedVariables false
set_option linter.unusedSimpArgs false

/-! ### depotref21_colon: function 59 -/
def depotref21_colon.l0 : Nat → ByteArray → Int → Option (Int)
  | 0, _, _ => none
  | k + 1, x0, x3 => if x3 < (x0.size : Int) then (if 0 ≤ x3 then (if (bt x0 x3) = 58 then (some x3) else (depotref21_colon.l0 k x0 (wrap64 (x3 + 1)))) else (none)) else (some (-1))
def depotref21_colon.f (k : Nat) (a0 : ByteArray) : Option (Int) := depotref21_colon.l0 k a0 0
set_option maxHeartbeats 8000000 in
set_option maxRecDepth 100000 in
theorem depotref21_colon.calls (k : Nat) (a0 : ByteArray) (r : Int) (w : World) (h : depotref21_colon.f k a0 = some r) :
    Calls Tryd.prog 59 #[.string a0] w fun e w' => e = .returned (.int .i64 r) ∧ Drawn0 w w' := by
  have H : (depotref21_colon.l0 k a0 0) = some r := h
  clear h
  have H' := Aside0.mk H
  clear H
  go_enter Tryd.func59, Tryd.ntmps59
  go_wp2
  go_loopg [3] k (fun kq v3 w' => ∃ (x3_1 : Int), v3 = .int .i64 x3_1 ∧ Aside0 (depotref21_colon.l0 kq a0 x3_1 = some r) ∧ Aside0 (kq ≤ k) ∧ Drawn0 w w')
  case atStart => exact ⟨(0), (by first | rfl | (simp; done) | (simp [*]; done)), H', ⟨Nat.le_refl _⟩, by repeat (first | exact Drawn0.refl _ | apply Drawn0.step)⟩
  case round =>
    clear H'
    obtain ⟨x3_1, rfl, HA, HK1, ⟨m1, rfl⟩⟩ := hrel
    cases gk with
    | zero => exact absurd HA.out (by simp [depotref21_colon.l0])
    | succ k1 =>
      have H := HA.out
      clear HA
      simp only [depotref21_colon.l0] at H
      by_cases c2 : x3_1 < (a0.size : Int)
      · rw [if_pos c2] at H
        have c2b0 : decide (x3_1 < (a0.size : Int)) = true := decide_eq_true c2
        clear c2
        by_cases c3 : 0 ≤ x3_1
        · rw [if_pos c3] at H
          have c3b0 : decide (0 ≤ x3_1) = true := decide_eq_true c3
          clear c3
          by_cases c5 : (bt a0 x3_1) = 58
          · rw [if_pos c5] at H
            have c5b0 : ((bt a0 x3_1) == 58) = true := beq_iff_eq.mpr c5
            have c5b1 : ((bt a0 x3_1) != 58) = false := bne_eq_false_iff_eq.mpr c5
            clear c5
            obtain rfl := Option.some.inj H
            have p4 : 0 ≤ (x3_1 : Int) := of_decide_eq_true (by first | (with_reducible assumption) | assumption)
            have q4 : x3_1 < (a0.size : Int) := of_decide_eq_true (by first | (with_reducible assumption) | assumption)
            have hx4 := bt_at a0 x3_1
            replace p4 := eq_true p4
            replace q4 := eq_true q4
            go_wp2
            go_ret
            exact ⟨by first | rfl | (simp; done) | (simp [*]; done), by repeat (first | exact Drawn0.refl _ | apply Drawn0.step)⟩
          · rw [if_neg c5] at H
            have c5b0 : ((bt a0 x3_1) == 58) = false := beq_eq_false_iff_ne.mpr c5
            have c5b1 : ((bt a0 x3_1) != 58) = true := bne_iff_ne.mpr c5
            have H' := Aside0.mk H
            clear H
            have p4 : 0 ≤ (x3_1 : Int) := of_decide_eq_true (by first | (with_reducible assumption) | assumption)
            have q4 : x3_1 < (a0.size : Int) := of_decide_eq_true (by first | (with_reducible assumption) | assumption)
            have hx4 := bt_at a0 x3_1
            replace p4 := eq_true p4
            replace q4 := eq_true q4
            go_wp2
            go_roundg k1
            case measure => have := HK1.out; omega
            case rel => exact ⟨(wrap64 (x3_1 + 1)), (by first | rfl | (simp; done) | (simp [*]; done)), H', ⟨by have := HK1.out; omega⟩, by repeat (first | exact Drawn0.refl _ | apply Drawn0.step)⟩
        · rw [if_neg c3] at H
          exact absurd H (by simp)
      · rw [if_neg c2] at H
        have c2b0 : decide (x3_1 < (a0.size : Int)) = false := decide_eq_false c2
        clear c2
        obtain rfl := Option.some.inj H
        go_wp2
        go_ret
        exact ⟨by first | rfl | (simp; done) | (simp [*]; done), by repeat (first | exact Drawn0.refl _ | apply Drawn0.step)⟩

/-! ### depotref03_Lines: function 33 -/
def depotref03_Lines.l0 : Nat → ByteArray → List ByteArray → Int → Int → Option (List ByteArray)
  | 0, _, _, _, _ => none
  | k + 1, x0, x3, x4, x5 => if x5 < (x0.size : Int) then (if 0 ≤ x5 then (if (bt x0 x5) = 10 then (if 0 ≤ x4 then (if x4 ≤ x5 then (if x5 ≤ (x0.size : Int) then (if x3.length < 8796093022208 then (depotref03_Lines.l0 k x0 (x3 ++ [x0.extract (x4 : Int).toNat (x5 : Int).toNat]) (wrap64 (x5 + 1)) (wrap64 (x5 + 1))) else (none)) else (none)) else (none)) else (none)) else (depotref03_Lines.l0 k x0 x3 x4 (wrap64 (x5 + 1)))) else (none)) else (if x4 < (x0.size : Int) then (if 0 ≤ x4 then (if x4 ≤ (x0.size : Int) then (if x3.length < 8796093022208 then (some (x3 ++ [x0.extract (x4 : Int).toNat x0.size])) else (none)) else (none)) else (none)) else (some x3))
def depotref03_Lines.f (k : Nat) (a0 : ByteArray) : Option (List ByteArray) := depotref03_Lines.l0 k a0 ([] : List ByteArray) 0 0
set_option maxHeartbeats 8000000 in
set_option maxRecDepth 100000 in
theorem depotref03_Lines.calls (k : Nat) (a0 : ByteArray) (r : List ByteArray) (w : World) (h : depotref03_Lines.f k a0 = some r) :
    Calls Tryd.prog 33 #[.string a0] w fun e w' => ∃ v0_ : Value, e = .returned (v0_) ∧ Kd.R Kd.string 9 w' w.heap.size (fun _ => True) v0_ r ∧ Below w.heap.size w w' := by
  have HB := Aside0.mk (Below.refl w.heap.size w)
  have H : (depotref03_Lines.l0 k a0 ([] : List ByteArray) 0 0) = some r := h
  clear h
  have H' := Aside0.mk H
  clear H
  go_enter Tryd.func33, Tryd.ntmps33
  go_wp2
  go_loopg [3, 4, 5] k (fun kq v3 v4 v5 w' => ∃ (x3_1 : List ByteArray) (x4_1 : Int) (x5_1 : Int), v4 = .int .i64 x4_1 ∧ v5 = .int .i64 x5_1 ∧ Aside0 (depotref03_Lines.l0 kq a0 x3_1 x4_1 x5_1 = some r) ∧ Aside0 (kq ≤ k) ∧ Aside0 (Kd.R Kd.string 9 w' w.heap.size (fun _ => True) v3 x3_1) ∧ Aside0 (Below w.heap.size w w'))
  case atStart => exact ⟨(([] : List ByteArray)), (0), (0), (by first | rfl | (simp; done) | (simp [*]; done)), (by first | rfl | (simp; done) | (simp [*]; done)), H', ⟨Nat.le_refl _⟩, ⟨by first | exact Kd.R_nil _ _ _ _ _ | exact Kd.N_nil _ _ _ _ _ | exact Kd.V_nil _ _ _ _ _ | exact Kd.Q_nil _ _ _ _ _ | exact Kd.S_nil _ _ _ _ _⟩, ⟨by repeat (first | (with_reducible first | exact HB.out | apply below_alloc | apply pw_below_drewN | apply below_drew1) | exact HB.out)⟩⟩
  case round =>
    clear H'
    obtain ⟨x3_1, x4_1, x5_1, rfl, rfl, HA, HK1, HO_3, HB⟩ := hrel
    cases gk with
    | zero => exact absurd HA.out (by simp [depotref03_Lines.l0])
    | succ k1 =>
      have H := HA.out
      clear HA
      simp only [depotref03_Lines.l0] at H
      by_cases c2 : x5_1 < (a0.size : Int)
      · rw [if_pos c2] at H
        have c2b0 : decide (x5_1 < (a0.size : Int)) = true := decide_eq_true c2
        clear c2
        by_cases c3 : 0 ≤ x5_1
        · rw [if_pos c3] at H
          have c3b0 : decide (0 ≤ x5_1) = true := decide_eq_true c3
          clear c3
          by_cases c5 : (bt a0 x5_1) = 10
          · rw [if_pos c5] at H
            have c5b0 : ((bt a0 x5_1) == 10) = true := beq_iff_eq.mpr c5
            have c5b1 : ((bt a0 x5_1) != 10) = false := bne_eq_false_iff_eq.mpr c5
            clear c5
            by_cases c6 : 0 ≤ x4_1
            · rw [if_pos c6] at H
              have c6b0 := eq_true c6
              have c6b1 : decide (0 ≤ x4_1) = true := decide_eq_true c6
              clear c6
              by_cases c7 : x4_1 ≤ x5_1
              · rw [if_pos c7] at H
                have c7b0 := eq_true c7
                have c7b1 : decide (x4_1 ≤ x5_1) = true := decide_eq_true c7
                clear c7
                by_cases c8 : x5_1 ≤ (a0.size : Int)
                · rw [if_pos c8] at H
                  have c8b0 := eq_true c8
                  have c8b1 : decide (x5_1 ≤ (a0.size : Int)) = true := decide_eq_true c8
                  clear c8
                  by_cases c9 : x3_1.length < 8796093022208
                  · rw [if_pos c9] at H
                    have LMc9 := Aside0.mk c9
                    clear c9
                    obtain ⟨y101, hy101⟩ : ∃ y_ : List ByteArray, y_ = (x3_1 ++ [a0.extract (x4_1 : Int).toNat (x5_1 : Int).toNat]) := ⟨_, rfl⟩
                    replace H : (depotref03_Lines.l0 k1 a0 y101 (wrap64 (x5_1 + 1)) (wrap64 (x5_1 + 1))) = some r := by first | (rw [hy101]; with_reducible exact H) | (have H2_ := (Option.bind_some _ _).symm.trans H; rw [hy101]; with_reducible exact H2_) | (have H2_ := (Option.bind_some _ _).symm.trans H; with_reducible exact H2_) | with_reducible exact H | (rw [hy101]; exact H) | exact H
                    have Ny101 := Aside0.mk hy101
                    clear hy101
                    have H' := Aside0.mk H
                    clear H
                    have p4 : 0 ≤ (x5_1 : Int) := of_decide_eq_true (by first | (with_reducible assumption) | assumption)
                    have q4 : x5_1 < (a0.size : Int) := of_decide_eq_true (by first | (with_reducible assumption) | assumption)
                    have hx4 := bt_at a0 x5_1
                    replace p4 := eq_true p4
                    replace q4 := eq_true q4
                    go_wp2_with (first | ((with_reducible refine gate_builtin (b := .append) (xs := #[.tmp 16, .tmp 21]) rfl ?_); at_builtin; refine Kd.R_append Kd.string (w0 := w) w.heap.size rfl (.tmp 16) (.tmp 21) 56 9 (.string ⟨#[]⟩) 16 rfl Tryd.underlying56 info9 rfl (by decide) (by omega) u3 x3_1 (a0.extract (x4_1 : Int).toNat (x5_1 : Int).toNat) [.string (a0.extract (x4_1 : Int).toNat (x5_1 : Int).toNat)] (fun _ => True) (fun _ => False) rfl rfl ?aP (fun _ hk => hk.elim) ?aF ?aO ?aB ?aS ?aL ?_; (case aP => exact rfl); (case aB => exact (by repeat (first | (with_reducible first | exact HB.out | apply below_alloc | apply pw_below_drewN | apply below_drew1) | exact HB.out))); (case aF => exact (fun _ _ => trivial)); (case aO => exact (by (with_reducible repeat (first | apply Kd.R_alloc | apply Kd.R_drewN | apply Kd.R_drew)); exact HO_3.out)); (case aS => exact (below_size (by repeat (first | (with_reducible first | exact HB.out | apply below_alloc | apply pw_below_drewN | apply below_drew1) | exact HB.out)))); (case aL => have := LMc9.out; first | omega | exact Nat.le_of_lt this | exact this); intro v102 w10 ho hb hg hat; rw [← Ny101.out] at ho; have n0_ := Aside0.mk (hb); have n1_ := Aside0.mk (ho); clear HB; clear HO_3; have HB := n0_; have HO103 := n1_; clear n0_ n1_; clear ho hb hg hat))
                    go_roundg k1
                    case measure => have := HK1.out; omega
                    case rel => exact ⟨(y101), (wrap64 (x5_1 + 1)), (wrap64 (x5_1 + 1)), (by first | rfl | (simp; done) | (simp [*]; done)), (by first | rfl | (simp; done) | (simp [*]; done)), H', ⟨by have := HK1.out; omega⟩, ⟨by (with_reducible repeat (first | apply Kd.R_alloc | apply Kd.R_drewN | apply Kd.R_drew)); exact HO103.out⟩, ⟨by repeat (first | (with_reducible first | exact HB.out | apply below_alloc | apply pw_below_drewN | apply below_drew1) | exact HB.out)⟩⟩
                  · rw [if_neg c9] at H
                    exact absurd H (by simp)
                · rw [if_neg c8] at H
                  exact absurd H (by simp)
              · rw [if_neg c7] at H
                exact absurd H (by simp)
            · rw [if_neg c6] at H
              exact absurd H (by simp)
          · rw [if_neg c5] at H
            have c5b0 : ((bt a0 x5_1) == 10) = false := beq_eq_false_iff_ne.mpr c5
            have c5b1 : ((bt a0 x5_1) != 10) = true := bne_iff_ne.mpr c5
            have H' := Aside0.mk H
            clear H
            have p4 : 0 ≤ (x5_1 : Int) := of_decide_eq_true (by first | (with_reducible assumption) | assumption)
            have q4 : x5_1 < (a0.size : Int) := of_decide_eq_true (by first | (with_reducible assumption) | assumption)
            have hx4 := bt_at a0 x5_1
            replace p4 := eq_true p4
            replace q4 := eq_true q4
            go_wp2
            go_roundg k1
            case measure => have := HK1.out; omega
            case rel => exact ⟨(x3_1), (x4_1), (wrap64 (x5_1 + 1)), (by first | rfl | (simp; done) | (simp [*]; done)), (by first | rfl | (simp; done) | (simp [*]; done)), H', ⟨by have := HK1.out; omega⟩, ⟨by (with_reducible repeat (first | apply Kd.R_alloc | apply Kd.R_drewN | apply Kd.R_drew)); exact HO_3.out⟩, ⟨by repeat (first | (with_reducible first | exact HB.out | apply below_alloc | apply pw_below_drewN | apply below_drew1) | exact HB.out)⟩⟩
        · rw [if_neg c3] at H
          exact absurd H (by simp)
      · rw [if_neg c2] at H
        have c2b0 : decide (x5_1 < (a0.size : Int)) = false := decide_eq_false c2
        clear c2
        by_cases c11 : x4_1 < (a0.size : Int)
        · rw [if_pos c11] at H
          have c11b0 : decide (x4_1 < (a0.size : Int)) = true := decide_eq_true c11
          clear c11
          by_cases c12 : 0 ≤ x4_1
          · rw [if_pos c12] at H
            have c12b0 := eq_true c12
            have c12b1 : decide (0 ≤ x4_1) = true := decide_eq_true c12
            clear c12
            by_cases c13 : x4_1 ≤ (a0.size : Int)
            · rw [if_pos c13] at H
              have c13b0 := eq_true c13
              have c13b1 : decide (x4_1 ≤ (a0.size : Int)) = true := decide_eq_true c13
              clear c13
              by_cases c14 : x3_1.length < 8796093022208
              · rw [if_pos c14] at H
                have LMc14 := Aside0.mk c14
                clear c14
                obtain ⟨y104, hy104⟩ : ∃ y_ : List ByteArray, y_ = (x3_1 ++ [a0.extract (x4_1 : Int).toNat a0.size]) := ⟨_, rfl⟩
                replace H : (some y104) = some r := by first | (rw [hy104]; with_reducible exact H) | (have H2_ := (Option.bind_some _ _).symm.trans H; rw [hy104]; with_reducible exact H2_) | (have H2_ := (Option.bind_some _ _).symm.trans H; with_reducible exact H2_) | with_reducible exact H | (rw [hy104]; exact H) | exact H
                have Ny104 := Aside0.mk hy104
                clear hy104
                obtain rfl := Option.some.inj H
                go_wp2_with (first | ((with_reducible refine gate_builtin (b := .append) (xs := #[.tmp 29, .tmp 33]) rfl ?_); at_builtin; refine Kd.R_append Kd.string (w0 := w) w.heap.size rfl (.tmp 29) (.tmp 33) 56 9 (.string ⟨#[]⟩) 16 rfl Tryd.underlying56 info9 rfl (by decide) (by omega) u3 x3_1 (a0.extract (x4_1 : Int).toNat a0.size) [.string (a0.extract (x4_1 : Int).toNat a0.size)] (fun _ => True) (fun _ => False) rfl rfl ?aP (fun _ hk => hk.elim) ?aF ?aO ?aB ?aS ?aL ?_; (case aP => exact rfl); (case aB => exact (by repeat (first | (with_reducible first | exact HB.out | apply below_alloc | apply pw_below_drewN | apply below_drew1) | exact HB.out))); (case aF => exact (fun _ _ => trivial)); (case aO => exact (by (with_reducible repeat (first | apply Kd.R_alloc | apply Kd.R_drewN | apply Kd.R_drew)); exact HO_3.out)); (case aS => exact (below_size (by repeat (first | (with_reducible first | exact HB.out | apply below_alloc | apply pw_below_drewN | apply below_drew1) | exact HB.out)))); (case aL => have := LMc14.out; first | omega | exact Nat.le_of_lt this | exact this); intro v105 w15 ho hb hg hat; rw [← Ny104.out] at ho; have n0_ := Aside0.mk (hb); have n1_ := Aside0.mk (ho); clear HB; clear HO_3; have HB := n0_; have HO106 := n1_; clear n0_ n1_; clear ho hb hg hat))
                go_ret
                exact ⟨_, by first | rfl | (simp [errW_none, errW_some] <;> rfl) | (simp [*, errW_none, errW_some] <;> rfl), by (with_reducible repeat (first | apply Kd.R_alloc | apply Kd.R_drewN | apply Kd.R_drew)); exact HO106.out, by repeat (first | (with_reducible first | exact HB.out | apply below_alloc | apply pw_below_drewN | apply below_drew1) | exact HB.out)⟩
              · rw [if_neg c14] at H
                exact absurd H (by simp)
            · rw [if_neg c13] at H
              exact absurd H (by simp)
          · rw [if_neg c12] at H
            exact absurd H (by simp)
        · rw [if_neg c11] at H
          have c11b0 : decide (x4_1 < (a0.size : Int)) = false := decide_eq_false c11
          clear c11
          obtain rfl := Option.some.inj H
          go_wp2
          go_ret
          exact ⟨_, by first | rfl | (simp [errW_none, errW_some] <;> rfl) | (simp [*, errW_none, errW_some] <;> rfl), by (with_reducible repeat (first | apply Kd.R_alloc | apply Kd.R_drewN | apply Kd.R_drew)); exact HO_3.out, by repeat (first | (with_reducible first | exact HB.out | apply below_alloc | apply pw_below_drewN | apply below_drew1) | exact HB.out)⟩

end Go.Proofs.YtbaiglikmneicaaDoor.X
end
section
set_option linter.unusedVariables false
set_option linter.unusedSimpArgs false
namespace Go.Proofs.YtbaiglikmneicaaDoor.X
open Go.Proofs.YtbaiglikmneicaaDoor.R Go.RowKit Go.Lib Go.Proofs.YtbaiglikmneicaaDoorW.PrintWords Go.Proofs.YtbaiglikmneicaaDoorW.PrintLast Go.Proofs.YtbaiglikmneicaaDoorW.PrintMore

theorem w64r {x : Int} (h0 : -9223372036854775808 ≤ x) (h1 : x ≤ 9223372036854775807) : wrap64 x = x := by
  unfold wrap64; omega
theorem succ_ofr {k d : Nat} (h : d < k) : ∃ m, k = m + 1 := ⟨k - 1, by omega⟩
theorem bt_nat (s : ByteArray) (i : Nat) (h : i < s.size) : bt s (i : Int) = (by_ s i : Int) := by
  unfold bt by_
  rw [Int.toNat_natCast, dif_pos h]
  congr 1
  simp [ByteArray.get!, h]
  rfl
theorem lines_l0 (s : ByteArray) (hs : s.size ≤ 4398046511104) (d : Nat) : ∀ (k i a n : Nat) (acc : List ByteArray), i ≤ s.size → s.size - i = d → a ≤ i → (∀ j, a + j < i → (s.data.toList.drop a)[j]? ≠ some 10) → acc.length ≤ i → d + 1 < k → s.size - a ≤ n →
    depotref03_Lines.l0 k s acc (a : Int) (i : Int) = some (acc ++ (linesL n (s.data.toList.drop a)).map mk_) := by
  have hsz : s.data.toList.length = s.size := by simp
  induction d with
  | zero =>
    intro k i a n acc h0 hd ha hno hl hk hn
    obtain ⟨k, rfl⟩ := succ_ofr hk
    obtain rfl : i = s.size := by omega
    rw [depotref03_Lines.l0, if_neg (by omega)]
    by_cases hai : a < s.size
    · rw [if_pos (by omega), if_pos (by omega), if_pos (by omega), if_pos (by omega)]
      obtain ⟨n, rfl⟩ : ∃ m, n = m + 1 := ⟨n - 1, by omega⟩
      have hne : s.data.toList.drop a ≠ [] := by
        intro h
        have := congrArg List.length h
        simp [hsz] at this
        omega
      have hc := cut_no (s.data.toList.drop a) (fun j => by
        rcases Nat.lt_or_ge (a + j) s.size with hj | hj
        · exact hno j hj
        · rw [List.getElem?_drop, List.getElem?_eq_none (by omega)]; simp)
      rw [linesL, if_neg hne, hc, linesL_nil]
      congr 2
      simp only [List.map_cons, List.map_nil, Int.toNat_natCast]
      rw [R.extract_mk]
      congr 2
      rw [List.take_of_length_le]
      simp [hsz]
    · rw [if_neg (by omega)]
      rw [List.drop_of_length_le (by omega), linesL_nil]
      simp
  | succ d ih =>
    intro k i a n acc h0 hd ha hno hl hk hn
    obtain ⟨k, rfl⟩ := succ_ofr hk
    have hi : i < s.size := by omega
    have e1 : ((i : Int) + 1) = ((i + 1 : Nat) : Int) := by omega
    have hby : (s.data.toList.drop a)[i - a]? = some (UInt8.ofNat (by_ s i)) := by rw [List.getElem?_drop, show a + (i - a) = i by omega]; exact by_at s i hi
    have hlt : by_ s i < 256 := by unfold by_; exact UInt8.toNat_lt _
    rw [depotref03_Lines.l0, if_pos (by omega), if_pos (by omega), bt_nat s i hi]
    by_cases h10 : (by_ s i : Int) = 10
    · rw [if_pos h10, if_pos (by omega), if_pos (by omega), if_pos (by omega), if_pos (by omega), w64r (by omega) (by omega), e1]
      obtain ⟨n, rfl⟩ : ∃ m, n = m + 1 := ⟨n - 1, by omega⟩
      have hc := cut_at (s.data.toList.drop a) (i - a) (fun j hj => hno j (by omega)) (by rw [hby]; congr 1; rw [show by_ s i = 10 by omega]; rfl)
      have hne : s.data.toList.drop a ≠ [] := by
        intro h
        rw [h] at hby
        cases hby
      rw [ih k (i + 1) (i + 1) n (acc ++ [s.extract (a : Int).toNat (i : Int).toNat]) (by omega) (by omega) (by omega) (fun j hj => by omega) (by simp; omega) (by omega) (by omega)]
      rw [linesL, if_neg hne, hc]
      simp only [List.map_cons, Int.toNat_natCast, List.append_assoc, List.singleton_append, List.drop_drop]
      rw [R.extract_mk, show a + (i - a + 1) = i + 1 by omega]
    · rw [if_neg h10, w64r (by omega) (by omega), e1]
      refine ih k (i + 1) a n acc (by omega) (by omega) (by omega) (fun j hj => ?_) (by omega) (by omega) hn
      rcases Nat.lt_or_ge (a + j) i with hj2 | hj2
      · exact hno j hj2
      · obtain rfl : j = i - a := by omega
        rw [hby]
        intro h
        have := congrArg UInt8.toNat (Option.some.inj h)
        simp [UInt8.toNat_ofNat'] at this
        omega
theorem lines_is (s : ByteArray) (hs : s.size ≤ 4398046511104) (k : Nat) (hk : s.size + 1 < k) : depotref03_Lines.f k s = some ((linesL s.size s.data.toList).map mk_) := by
  unfold depotref03_Lines.f
  have := lines_l0 s hs s.size k 0 0 s.size [] (by omega) (by omega) (by omega) (fun j hj => by omega) (by simp) hk (by omega)
  simpa using this
theorem bt_mk (l : List UInt8) (i : Nat) (h : i < l.length) : bt (mkB l) (i : Int) = (l[i].toNat : Int) := by
  unfold bt
  rw [dif_pos (show ((i : Int).toNat) < (mkB l).size by rw [mkB_size]; omega)]
  simp [mkB]
  rfl
theorem occ_iffb (c : UInt8) (l : List UInt8) (i : Nat) : occAt l [c] i = true ↔ l[i]? = some c := by
  unfold occAt
  rw [← List.head?_drop]
  cases h : l.drop i with
  | nil => simp
  | cons b t =>
    simp only [List.isPrefixOf, Bool.and_true, beq_iff_eq, List.head?_cons, Option.some.injEq]
    exact eq_comm
theorem colon_l0 (l : List UInt8) (hl : l.length ≤ 4398046511104) (d : Nat) : ∀ (i k : Nat), i ≤ l.length → l.length - i = d → (∀ j, j < i → l[j]? ≠ some 58) → d < k → depotref21_colon.l0 k (mkB l) (i : Int) = some (index l [58]) := by
  induction d with
  | zero =>
    intro i k h0 hd hno hk
    obtain ⟨k, rfl⟩ := succ_ofr hk
    have e : index l [58] = -1 := index_none (fun j _ => by
      cases h : occAt l [58] j with
      | false => rfl
      | true =>
        have hj := (occ_iffb 58 l j).1 h
        have : j < l.length := by
          rcases Nat.lt_or_ge j l.length with h | h
          · exact h
          · rw [List.getElem?_eq_none h] at hj; cases hj
        exact absurd hj (hno j (by omega)))
    rw [depotref21_colon.l0, if_neg (by rw [mkB_size]; omega), e]
  | succ d ih =>
    intro i k h0 hd hno hk
    obtain ⟨k, rfl⟩ := succ_ofr hk
    have hlt : i < l.length := by omega
    rw [depotref21_colon.l0, if_pos (by rw [mkB_size]; omega), if_pos (by omega), bt_mk l i hlt]
    by_cases h58 : l[i] = 58
    · rw [if_pos (by rw [h58]; rfl)]
      have e : index l [58] = (i : Int) := index_first h0 ((occ_iffb 58 l i).2 (by rw [List.getElem?_eq_getElem hlt, h58])) (fun j hj => by
        cases h : occAt l [58] j with
        | false => rfl
        | true => exact absurd ((occ_iffb 58 l j).1 h) (hno j hj))
      rw [e]
    · rw [if_neg (fun e => h58 (UInt8.toNat_inj.1 (by show (l[i]).toNat = 58; omega))), w64r (by omega) (by omega)]
      refine ih (i + 1) k (by omega) (by omega) (fun j hj => ?_) (by omega)
      rcases Nat.lt_or_ge j i with h | h
      · exact hno j h
      · obtain rfl : j = i := by omega
        rw [List.getElem?_eq_getElem hlt]
        intro e
        exact h58 (Option.some.inj e)
theorem colon_is (l : List UInt8) (hl : l.length ≤ 4398046511104) (k : Nat) (hk : l.length < k) : depotref21_colon.f k (mkB l) = some (index l [58]) := by
  have := colon_l0 l hl l.length 0 k (Nat.zero_le _) (by omega) (fun j hj => by omega) hk
  exact this
/-- Where the colon stands: what strings.Cut says. -/
theorem cut_colon (l : List UInt8) : (index l [58] = -1 ∧ cut l [58] = (l, [], false)) ∨ (∃ n : Nat, n < l.length ∧ index l [58] = (n : Int) ∧ cut l [58] = (l.take n, l.drop (n + 1), true)) := by
  rcases index_spec l [58] with ⟨h1, _⟩ | ⟨n, h1, h2, h3, _⟩
  · left
    refine ⟨h1, ?_⟩
    unfold cut
    rw [h1, if_neg (by omega)]
  · right
    have hr := index_room l [58] (by omega)
    rw [h1] at hr
    simp at hr
    refine ⟨n, by omega, h1, ?_⟩
    unfold cut
    rw [h1, if_pos (by omega), Int.toNat_natCast]
    rfl
end Go.Proofs.YtbaiglikmneicaaDoor.X
end
section
set_option linter.unusedVariables false
set_option linter.unusedSimpArgs false
namespace Go.Proofs.YtbaiglikmneicaaDoor.P
open Go.RowKit Go.Lib Go.Proofs.YtbaiglikmneicaaDoorW.PrintWords Go.Proofs.YtbaiglikmneicaaDoorW.PrintLast Go.Proofs.YtbaiglikmneicaaDoorW.PrintMore
open Go.Proofs.YtbaiglikmneicaaDoor.R (mkB mkB_size mkB_data mkB_extract)
open Go.Proofs.YtbaiglikmneicaaDoor.C (fairL)

/-- What put does with the stanza (line, fs). -/
def putC (line : Int) (fs : List S50) (a : List UInt8) (n : Int) : Int × List S50 × Int :=
  if (hasPrefix a [32] || hasPrefix a [9]) = true then (if fs = [] then (line, fs, 210) else (line, moreC fs (trimC a), 0))
  else if (!(cut a [58]).2.2 || !nameL (cut a [58]).1) = true then (line, fs, 210)
  else if hasF fs (mkB (cut a [58]).1) = true then (line, fs, 211)
  else (if fs = [] then n else line, fs ++ [fieldC a], 0)
theorem grown_far {a w : World} {row : Option Nat} (h : a.grownBy w row) {b : Nat} (hb : a.heap.size ≤ b) (i : Nat) (v : Value) : a.grownBy (w.setCell ⟨b, i, none⟩ v) row :=
  have k := grownBy_setCell w b i v
  ⟨k.os.trans h.os, k.tape.trans h.tape, k.output.trans h.output, Nat.le_trans h.size k.size, fun j hj hr => (k.block j (Nat.lt_of_lt_of_le hj h.size) (fun e => by injection e with e; omega)).trans (h.block j hj hr)⟩
/-- What put leaves. -/
def PutP (W : World) (base : Nat) (ok : Nat → Prop) (vf : Value) (r : Int × List S50 × Int) (e : Ending) (w' : World) : Prop :=
  ∃ v' : Value, e = .returned (.tuple #[.agg #[.int .i64 r.1, v'], .int .i64 r.2.2]) ∧ Kd.R k50 50 w' base ok v' r.2.1 ∧ W.grownBy w' vf.ownBlock ∧ (v'.ownBlock = vf.ownBlock ∨ ∃ b, v'.ownBlock = some b ∧ W.heap.size ≤ b)
/-- While put runs: its own copy of the stanza (g1), the block of its answer (g2). -/
structure PtV (W : World) (base : Nat) (ok : Nat → Prop) (g1 g2 : Nat) (v0 : Value) (line : Int) (vf : Value) (fs : List S50) (w : World) : Prop where
  b1 : w.heap[g1]? = some (.cells #[.int .i64 line, vf] 41 (0, 0))
  b2 : w.heap[g2]? = some (.cells #[.int .i64 0, .slice none 0 0] 41 (0, 0))
  l : Kd.R k50 50 w base (fun k => ok k ∧ k ≠ g1 ∧ k ≠ g2) vf fs
  grown : W.grownBy w v0.ownBlock
  at_ : vf.ownBlock = v0.ownBlock ∨ ∃ b, vf.ownBlock = some b ∧ W.heap.size ≤ b
  le1 : W.heap.size ≤ g1
  le2 : W.heap.size ≤ g2
  ne : g1 ≠ g2
theorem PtV.on {W w w' : World} {base : Nat} {ok : Nat → Prop} {g1 g2 : Nat} {v0 vf : Value} {line : Int} {fs : List S50} (h : PtV W base ok g1 g2 v0 line vf fs w) (hb : Below w.heap.size w w') : PtV W base ok g1 g2 v0 line vf fs w' :=
  ⟨(hb.block g1 (blk_lt h.b1)).trans h.b1, (hb.block g2 (blk_lt h.b2)).trans h.b2, Kd.R_below h.l hb, h.grown.trans (grown_of_below hb _), h.at_, h.le1, h.le2, h.ne⟩
theorem PtV.setLine {W w : World} {base : Nat} {ok : Nat → Prop} {g1 g2 : Nat} {v0 vf : Value} {line : Int} {fs : List S50} (h : PtV W base ok g1 g2 v0 line vf fs w) (n : Int) : PtV W base ok g1 g2 v0 n vf fs (w.setCell ⟨g1, 0, none⟩ (.int .i64 n)) :=
  ⟨blk_put h.b1 0 _ rfl, blk_far h.b2 (fun e => h.ne e.symm) _, Kd.R_far h.l (fun k hk => hk.2.1) _, grown_far h.grown h.le1 0 _, h.at_, h.le1, h.le2, h.ne⟩
/-- The answer's block. -/
theorem PtV.done {W w : World} {base : Nat} {ok : Nat → Prop} {g1 g2 : Nat} {v0 vf : Value} {line : Int} {fs : List S50} (h : PtV W base ok g1 g2 v0 line vf fs w) :
    ((w.setCell ⟨g2, 0, none⟩ (.int .i64 line)).setCell ⟨g2, 1, none⟩ vf).heap[g2]? = some (.cells #[.int .i64 line, vf] 41 (0, 0)) ∧
    Kd.R k50 50 ((w.setCell ⟨g2, 0, none⟩ (.int .i64 line)).setCell ⟨g2, 1, none⟩ vf) base ok vf fs ∧
    W.grownBy ((w.setCell ⟨g2, 0, none⟩ (.int .i64 line)).setCell ⟨g2, 1, none⟩ vf) v0.ownBlock :=
  ⟨blk_put (blk_put h.b2 0 _ rfl) 1 _ rfl, Kd.R_mono (Kd.R_far (Kd.R_far h.l (fun k hk => hk.2.2) _) (fun k hk => hk.2.2) _) (fun k hk => hk.1), grown_far (grown_far h.grown h.le2 0 _) h.le2 1 _⟩
theorem PtV.post {W w : World} {base : Nat} {ok : Nat → Prop} {g1 g2 : Nat} {v0 vf : Value} {line e : Int} {fs : List S50} (h : PtV W base ok g1 g2 v0 line vf fs w) :
    PutP W base ok v0 (line, fs, e) (.returned (.tuple #[.agg #[.int .i64 line, vf], .int .i64 e])) ((w.setCell ⟨g2, 0, none⟩ (.int .i64 line)).setCell ⟨g2, 1, none⟩ vf) :=
  ⟨vf, rfl, h.done.2.1, h.done.2.2, h.at_⟩
/-- A field appended. -/
theorem PtV.appended {W w w1 : World} {base : Nat} {ok : Nat → Prop} {g1 g2 : Nat} {v0 vf v1 : Value} {line : Int} {fs : List S50} {f : S50} (h : PtV W base ok g1 g2 v0 line vf fs w)
    (ho : Kd.R k50 50 w1 base (fun k => ok k ∧ k ≠ g1 ∧ k ≠ g2) v1 (fs ++ [f])) (hg : w.grownBy w1 vf.ownBlock) (hat : v1.ownBlock = vf.ownBlock ∨ ∃ b, v1.ownBlock = some b ∧ w.heap.size ≤ b) :
    PtV W base ok g1 g2 v0 line v1 (fs ++ [f]) (w1.setCell ⟨g1, 1, none⟩ v1) := by
  have hb1 := blk_grown h.b1 hg (Kd.R_away h.l (fun k hk => hk.2.1))
  have hb2 := blk_grown h.b2 hg (Kd.R_away h.l (fun k hk => hk.2.2))
  have hgr : W.grownBy w1 v0.ownBlock := by
    refine ⟨hg.os.trans h.grown.os, hg.tape.trans h.grown.tape, hg.output.trans h.grown.output, Nat.le_trans h.grown.size hg.size, fun j hj hr => ?_⟩
    refine (hg.block j (Nat.lt_of_lt_of_le hj h.grown.size) ?_).trans (h.grown.block j hj hr)
    rcases h.at_ with e | ⟨b, e, hb⟩
    · rw [e]; exact hr
    · rw [e]; intro e; injection e with e; omega
  refine ⟨blk_put hb1 1 _ rfl, blk_far hb2 (fun e => h.ne e.symm) _, Kd.R_far ho (fun k hk => hk.2.1) _, grown_far hgr h.le1 1 _, ?_, h.le1, h.le2, h.ne⟩
  have hs := h.grown.size
  rcases hat with e | ⟨b, e, hb⟩
  · rw [e]; exact h.at_
  · exact .inr ⟨b, e, by omega⟩
/-- The last field's value written anew. -/
theorem PtV.mored {W w : World} {base : Nat} {ok : Nat → Prop} {g1 g2 gf cap : Nat} {v0 : Value} {line : Int} {fs : List S50} (h : PtV W base ok g1 g2 v0 line (.slice (some ⟨gf, 0, none⟩) fs.length cap) fs w) (hne : 0 < fs.length) (t : List UInt8) :
    PtV W base ok g1 g2 v0 line (.slice (some ⟨gf, 0, none⟩) fs.length cap) (moreC fs t) (w.setCell ⟨gf, (fs.length - 1) * 2 + 1, none⟩ (.string ((fs.getD (fs.length - 1) z50).f1 ++ ((⟨#[10]⟩ : ByteArray) ++ mkB t)))) := by
  obtain ⟨c, hcl, hM, hcc, _⟩ := Kd.R_elem h.l z50 ((fs.length - 1 : Nat) : Int) (by omega) (by omega)
  rw [Int.toNat_natCast] at hM hcc
  obtain rfl := k50_openM hM
  have hgf := h.l.1 gf (by simp [Value.ownBlock])
  obtain ⟨hr, hg⟩ := Kd.R_seg (okp := fun _ => False) h.l ((fs.length - 1 : Nat) : Int) (by omega) (by omega) (c := [.string (fs.getD (fs.length - 1) z50).f0, .string (fs.getD (fs.length - 1) z50).f1]) (seg := [.string ((fs.getD (fs.length - 1) z50).f1 ++ ((⟨#[10]⟩ : ByteArray) ++ mkB t))]) (j := 1) hcl (by rw [Int.toNat_natCast]; exact hcc) (by show 1 + 1 ≤ 2; omega) (x' := ⟨(fs.getD (fs.length - 1) z50).f0, (fs.getD (fs.length - 1) z50).f1 ++ ((⟨#[10]⟩ : ByteArray) ++ mkB t)⟩) (k50_mkM _ _ _ _) (fun _ hk => hk.elim)
  rw [Int.toNat_natCast] at hr hg
  have e : w.setCells gf ((fs.length - 1) * k50.sz + 1) [.string ((fs.getD (fs.length - 1) z50).f1 ++ ((⟨#[10]⟩ : ByteArray) ++ mkB t))] = w.setCell ⟨gf, (fs.length - 1) * 2 + 1, none⟩ (.string ((fs.getD (fs.length - 1) z50).f1 ++ ((⟨#[10]⟩ : ByteArray) ++ mkB t))) := rfl
  rw [e] at hr hg
  have hl : (moreC fs t).length = fs.length := by unfold moreC; rw [List.length_set]
  have hgr : W.grownBy (w.setCell ⟨gf, (fs.length - 1) * 2 + 1, none⟩ (.string ((fs.getD (fs.length - 1) z50).f1 ++ ((⟨#[10]⟩ : ByteArray) ++ mkB t)))) v0.ownBlock := by
    have ha := h.at_
    rcases ha with e | ⟨b, e, hb⟩
    · rw [← e]
      refine World.grownBy.trans ?_ (grownBy_setCell w gf _ _)
      have := h.grown
      rw [← e] at this
      exact this
    · have : gf = b := by simpa [Value.ownBlock] using e
      subst this
      exact grown_far h.grown hb _ _
  exact ⟨blk_far h.b1 (fun e => hgf.2.1 e.symm) _, blk_far h.b2 (fun e => hgf.2.2 e.symm) _, hr, hgr, h.at_, h.le1, h.le2, h.ne⟩
end Go.Proofs.YtbaiglikmneicaaDoor.P
end
section
set_option linter.unusedVariables false
set_option linter.unusedSimpArgs false
namespace Go.Proofs.YtbaiglikmneicaaDoor.P
open Go.RowKit Go.Lib Go.Proofs.YtbaiglikmneicaaDoorW.PrintWords Go.Proofs.YtbaiglikmneicaaDoorW.PrintLast Go.Proofs.YtbaiglikmneicaaDoorW.PrintMore
open Go.Proofs.YtbaiglikmneicaaDoor.R (mkB mkB_size mkB_data mkB_extract)
open Go.Proofs.YtbaiglikmneicaaDoor.C (fairL)

theorem PtV.start {W w1 w2 : World} {base : Nat} {ok : Nat → Prop} {vf : Value} {line : Int} {fs : List S50} {g1 g2 : Nat} (hR : Kd.R k50 50 W base ok vf fs) (hg1 : g1 = W.heap.size)
    (b1 : w1.heap[g1]? = some (.cells #[.int .i64 line, vf] 41 (0, 0))) (h1 : Below W.heap.size W w1) (hg2 : g2 = w1.heap.size) (b2 : w2.heap[g2]? = some (.cells #[.int .i64 0, .slice none 0 0] 41 (0, 0))) (h2 : Below w1.heap.size w1 w2) :
    PtV W base ok g1 g2 vf line vf fs w2 := by
  have hs := h1.size
  have hl := blk_lt b1
  have h12 : Below W.heap.size W w2 := h1.trans (h2.mono hs)
  refine ⟨(h2.block g1 hl).trans b1, b2, Kd.R_below (Kd.R_mono (Kd.R_bound hR) (fun k hk => ⟨hk.1, by have := hk.2.2.1; omega, by have := hk.2.2.1; omega⟩)) h12, grown_of_below h12 _, .inl rfl, by omega, by omega, by omega⟩
theorem hasPrefix_one (b c : UInt8) (t : List UInt8) : hasPrefix (b :: t) [c] = (c == b) := by
  unfold hasPrefix
  simp [List.isPrefixOf]
theorem blank_pre (b : UInt8) (t : List UInt8) : (hasPrefix (b :: t) [32] || hasPrefix (b :: t) [9]) = blankB b := by
  rw [hasPrefix_one, hasPrefix_one]
  cases h : blankB b with
  | true =>
    rcases (blankB_iff b).1 h with e | e
    · subst e; rfl
    · subst e; rfl
  | false =>
    have h1 : b ≠ 32 := fun e => by rw [(blankB_iff b).2 (.inl e)] at h; cases h
    have h2 : b ≠ 9 := fun e => by rw [(blankB_iff b).2 (.inr e)] at h; cases h
    rw [beq_eq_false_iff_ne.2 h1.symm, beq_eq_false_iff_ne.2 h2.symm]
    rfl
set_option maxHeartbeats 8000000 in
set_option maxRecDepth 100000 in
theorem put_walk (W : World) (base : Nat) (ok : Nat → Prop) (line n : Int) (vf : Value) (fs : List S50) (a : List UInt8) (s : ByteArray) (hs : mkB a = s) (M : Nat) (hM : M ≤ 4294967280) (hR : Kd.R k50 50 W base ok vf fs) (hok : ∀ k, W.heap.size ≤ k → ok k) (hbase : base ≤ W.heap.size)
    (hne : a ≠ []) (hal : a.length ≤ M) (hfl : fs.length ≤ M) (hbf : BndF M fs) :
    Calls Tryd.prog 36 #[.agg #[.int .i64 line, vf], .string s, .int .i64 n] W (PutP W base ok vf (putC line fs a n)) := by
  obtain ⟨b, t, hbt⟩ : ∃ b t, a = b :: t := by
    cases a with
    | nil => exact absurd rfl hne
    | cons b t => exact ⟨b, t, rfl⟩
  obtain ⟨Al, cl, el⟩ := Kd.R_slice hR
  subst el
  have hsz : s.size = a.length := by rw [← hs, mkB_size]
  have hpos : 0 < a.length := List.length_pos_iff.2 hne
  have hb0 : bt s 0 = (b.toNat : Int) := by
    have := X.bt_mk a 0 hpos
    rw [hs] at this
    refine this.trans ?_
    subst hbt
    rfl
  have HBL := Aside0.mk (show V.depotref21_blank.f (bt s 0) = some (blankB b) by rw [hb0]; exact V.blank_is b)
  have hpc : putC line fs a n = if blankB b = true then (if fs = [] then (line, fs, 210) else (line, moreC fs (trimC a), 0)) else if (!(cut a [58]).2.2 || !nameL (cut a [58]).1) = true then (line, fs, 210) else if hasF fs (mkB (cut a [58]).1) = true then (line, fs, 211) else (if fs = [] then n else line, fs ++ [fieldC a], 0) := by
    unfold putC
    rw [hbt, blank_pre]
  have HPC := Aside0.mk hpc
  have q5 := eq_true (show 0 < s.size by omega)
  have hx5 : ∀ h : 0 < s.size, ((s[0]'h).toNat : Int) = bt s 0 := bt_at s 0
  have qi5 := eq_true (show 0 < (s.size : Int) by omega)
  have HS := Aside0.mk hs
  have HSZ := Aside0.mk hsz
  have HAL := Aside0.mk hal
  have HFL := Aside0.mk hfl
  have HBF := Aside0.mk hbf
  have HR := Aside0.mk hR
  have HOK := Aside0.mk hok
  have HBT := Aside0.mk hbt
  have HM := Aside0.mk hM
  clear hpc hs hsz hal hfl hbf hR hok hbt hb0 hpos hne hM
  go_enter Tryd.func36, Tryd.ntmps36
  go_wp2_with (first
    | ((with_reducible refine gate_dst (N := 3) rfl ?_); refine box_event ?hg1 (N := 3) ?hd1 (cs := #[.int .i64 line, .slice Al fs.length cl]) (t := 41) ?hr1 ?_; (case hd1 => rfl); (case hg1 => rfl); (case hr1 => first | (go_simp; done) | (go_simp; rfl)); intro g1 hg1 w1 hbox1 hb1; have B1 := Aside0.mk hbox1; have HB1 := Aside0.mk hb1; have G1 := Aside0.mk hg1; clear hbox1 hb1 hg1)
    | ((with_reducible refine gate_dst (N := 6) rfl ?_); refine box_event ?hg2 (N := 6) ?hd2 (cs := #[.int .i64 0, .slice none 0 0]) (t := 41) ?hr2 ?_; (case hd2 => rfl); (case hg2 => rfl); (case hr2 => first | (go_simp; done) | (go_simp; rfl)); intro g2 hg2 w2 hbox2 hb2; have HV := Aside0.mk (PtV.start HR.out G1.out B1.out HB1.out hg2 hbox2 hb2); have c1 := (blk_cell HV.out.b1 1).trans (show _ = some (Value.slice Al fs.length cl) from rfl); have c0 := (blk_cell HV.out.b1 0).trans (show _ = some (Value.int .i64 line) from rfl); have f0 := blk_frozen HV.out.b1 0; have f1 := blk_frozen HV.out.b1 1; have d0 := (blk_cell HV.out.b2 0).trans (show _ = some (Value.int .i64 0) from rfl); have d1 := (blk_cell HV.out.b2 1).trans (show _ = some (Value.slice none 0 0) from rfl); have e0 := blk_frozen HV.out.b2 0; have e1 := blk_frozen HV.out.b2 1; clear hbox2 hb2 hg2 B1 HB1 G1))
  refine (V.depotref21_blank.calls (bt s 0) (blankB b) _ HBL.out).mono ?_
  rintro e w3 ⟨rfl, ⟨nd, hq⟩⟩
  have HV3 := Aside0.mk (HV.out.on (w' := w3) (by rw [hq]; exact pw_below_drewN (Below.refl _ _) nd))
  clear hq c0 c1 f0 f1 d0 d1 e0 e1 HV
  have c1 := (blk_cell HV3.out.b1 1).trans (show _ = some (Value.slice Al fs.length cl) from rfl)
  have c0 := (blk_cell HV3.out.b1 0).trans (show _ = some (Value.int .i64 line) from rfl)
  have f0 := blk_frozen HV3.out.b1 0
  have f1 := blk_frozen HV3.out.b1 1
  have d0 := (blk_cell HV3.out.b2 0).trans (show _ = some (Value.int .i64 0) from rfl)
  have d1 := (blk_cell HV3.out.b2 1).trans (show _ = some (Value.slice none 0 0) from rfl)
  have e0 := blk_frozen HV3.out.b2 0
  have e1 := blk_frozen HV3.out.b2 1
  have ng : ¬ (g1 = g2) := HV3.out.ne
  have ng' : ¬ (g2 = g1) := fun e => HV3.out.ne e.symm
  cases hbl : blankB b with
  | true =>
    have hpc := HPC.out
    rw [if_pos hbl] at hpc
    by_cases hfs : fs = []
    · rw [if_pos hfs] at hpc
      have HPC2 := Aside0.mk hpc
      have hz : ((fs.length : Int) == 0) = true := by rw [hfs]; rfl
      clear hpc hfs hbl
      go_wp2_with fail
      refine bodyPost_ret (results_list (rs := [.cell 6 41, .tmp 7]) rfl (by simp) (.cell g2 41 #[.int .i64 line, .slice Al fs.length cl] (0, 0) _ rfl HV3.out.done.1 Tryd.underlying41 rfl (by kernel_rfl) (.tmp .nil))) rfl ?_
      rw [HPC2.out]
      exact HV3.out.post
    · rw [if_neg hfs] at hpc
      have HPC2 := Aside0.mk hpc
      have hz : 0 < fs.length := List.length_pos_iff.2 hfs
      obtain ⟨gf, cap, hvf, hbg, hgl, cells, hcells⟩ := Kd.R_form HV3.out.l hz
      obtain ⟨rfl, rfl⟩ : Al = some ⟨gf, 0, none⟩ ∧ cl = cap := by injection hvf with h1 h2 h3; exact ⟨h1, h3⟩
      obtain ⟨m, hm⟩ : ∃ m, fs.length = m + 1 := ⟨fs.length - 1, by omega⟩
      obtain ⟨c, hcl, hMM, hcc, _⟩ := Kd.R_elem HV3.out.l z50 ((fs.length - 1 : Nat) : Int) (by omega) (by omega)
      rw [Int.toNat_natCast] at hMM hcc
      obtain rfl := k50_openM hMM
      have hx : w3.cell? ⟨gf, (fs.length - 1) * 2 + 1, none⟩ = some (.string (fs.getD (fs.length - 1) z50).f1) := hcc 1 _ rfl
      have hxf := blk_frozen hcells ((fs.length - 1) * 2 + 1)
      have hlg1 := blk_lt HV3.out.b1
      have hlg2 := blk_lt HV3.out.b2
      have hvs : (fs.getD (fs.length - 1) z50).f1.size ≤ 4294967280 := Nat.le_trans HBF.out.last.2 HM.out
      have MORE := Aside0.mk (fun w' (h : Below w3.heap.size w3 w') => PtV.mored (HV3.out.on h) hz (trimC a))
      have KEEP := Aside0.mk (fun w' (h : Below w3.heap.size w3 w') => (show w'.cell? ⟨g1, 1, none⟩ = some (.slice (some ⟨gf, 0, none⟩) fs.length cl) ∧ w'.cell? ⟨gf, (fs.length - 1) * 2 + 1, none⟩ = some (.string (fs.getD (fs.length - 1) z50).f1) ∧ w'.frozen? ⟨gf, (fs.length - 1) * 2 + 1, none⟩ = false ∧ w'.cell? ⟨g1, 0, none⟩ = some (.int .i64 line) ∧ w'.frozen? ⟨g2, 0, none⟩ = false ∧ w'.frozen? ⟨g2, 1, none⟩ = false ∧ w'.cell? ⟨g2, 0, none⟩ = some (.int .i64 0) ∧ w'.cell? ⟨g2, 1, none⟩ = some (.slice none 0 0) from ⟨(h.cell hlg1).trans c1, (h.cell hgl).trans hx, (h.frozen hgl).trans hxf, (h.cell hlg1).trans c0, (h.frozen hlg2).trans e0, (h.frozen hlg2).trans e1, (h.cell hlg2).trans d0, (h.cell hlg2).trans d1⟩))
      have hgf := HV3.out.l.1 gf (by simp [Value.ownBlock])
      have n1 : ¬ (gf = g1) := hgf.2.1
      have n2 : ¬ (gf = g2) := hgf.2.2
      have n3 : ¬ (g1 = gf) := fun e => hgf.2.1 e.symm
      have n4 : ¬ (g2 = gf) := fun e => hgf.2.2 e.symm
      have HT := Aside0.mk (V.trim_is a (by have := HAL.out; have := HM.out; omega) (a.length + a.length + 3) (by omega))
      rw [HS.out] at HT
      have hml := trimC_length a
      obtain ⟨tb, htb⟩ : ∃ tb, mkB (trimC a) = tb := ⟨_, rfl⟩
      have htl : tb.size ≤ a.length := by rw [← htb, mkB_size]; exact hml
      rw [htb] at HT MORE
      obtain ⟨vv, hV⟩ : ∃ vv, (fs.getD (fs.length - 1) z50).f1 = vv := ⟨_, rfl⟩
      rw [hV] at hx hvs KEEP MORE
      have hass : vv ++ ((⟨#[10]⟩ : ByteArray) ++ tb) = vv ++ (⟨#[10]⟩ : ByteArray) ++ tb := (ByteArray.append_assoc).symm
      rw [hass] at MORE
      have e5 : fs.length - 1 = m := by omega
      rw [e5] at hx hxf KEEP MORE
      rw [hm] at c1 KEEP MORE
      rw [hm]
      have TR := Aside0.mk (show ∀ W, Calls Tryd.prog 35 #[.string s] W fun e w' => e = .returned (.string tb) ∧ Below W.heap.size W w' from fun W => (V.depotref21_Trim.calls _ s tb W HT.out).mono (fun e w' h => ⟨h.1, h.2.below⟩))
      clear hcc hcells hMM htb hV hml hass hvf HT
      have hq1 : ¬ (9223372036854775807 < vv.size + 1) := by omega
      have hq2 : ¬ (9223372036854775807 < vv.size + 1 + tb.size) := by have := HAL.out; have := HM.out; omega
      have hmb : m ≤ 4294967280 := by have := HFL.out; have := HM.out; omega
      have hw : IntKind.i64.wrap (m : Int) = (m : Int) := IntWalk.i64_in _ (by omega)
      have hlm : (m : Int) < (m : Int) + 1 := by omega
      clear hfs hvs htl hcl e5 hpc hbl hgf
      have HMM := Aside0.mk hm
      clear hm hz
      go_wp2_with fail
      go_region_with (first | (go_at_call 35; (with_reducible refine (TR.out _).mono ?_); rintro e w4 ⟨rfl, hd⟩; have HB := Aside0.mk ((Below.refl w3.heap.size w3).drew.trans hd); obtain ⟨k1, k2, k3, k4, k5, k6, k7, k8⟩ := KEEP.out _ HB.out; clear hd))
      all_goals
        have HVN := Aside0.mk (MORE.out _ HB.out)
        go_wp2_with fail
        refine bodyPost_ret (results_list (rs := [.cell 6 41, .tmp 7]) rfl (by simp) (.cell g2 41 #[.int .i64 line, .slice (some ⟨gf, 0, none⟩) (m + 1) cl] (0, 0) _ rfl HVN.out.done.1 Tryd.underlying41 rfl (by kernel_rfl) (.tmp .nil))) rfl ?_
        rw [HPC2.out]
        exact HVN.out.post
  | false =>
    have hpc := HPC.out
    rw [if_neg (by rw [hbl]; decide)] at hpc
    rcases X.cut_colon a with ⟨hi, hc⟩ | ⟨j, hj, hi, hc⟩
    · rw [hc, if_pos (by rfl)] at hpc
      have HPC2 := Aside0.mk hpc
      have hco := X.colon_is a (by have := HAL.out; have := HM.out; omega) (a.length + 1) (by omega)
      rw [HS.out, hi] at hco
      have HCO := Aside0.mk hco
      clear hpc hbl hi hc hco
      go_wp2_with fail
      refine (X.depotref21_colon.calls _ s (-1) _ HCO.out).mono ?_
      rintro e w4 ⟨rfl, hd4⟩
      have HV4 := Aside0.mk (HV3.out.on hd4.below)
      clear hd4
      clear c1 c0 f0 f1 d0 d1 e0 e1
      have c1 := (blk_cell HV4.out.b1 1).trans (show _ = some (Value.slice Al fs.length cl) from rfl)
      have c0 := (blk_cell HV4.out.b1 0).trans (show _ = some (Value.int .i64 line) from rfl)
      have f0 := blk_frozen HV4.out.b1 0
      have f1 := blk_frozen HV4.out.b1 1
      have d0 := (blk_cell HV4.out.b2 0).trans (show _ = some (Value.int .i64 0) from rfl)
      have d1 := (blk_cell HV4.out.b2 1).trans (show _ = some (Value.slice none 0 0) from rfl)
      have e0 := blk_frozen HV4.out.b2 0
      have e1 := blk_frozen HV4.out.b2 1
      go_wp2_with fail
      refine bodyPost_ret (results_list (rs := [.cell 6 41, .tmp 7]) rfl (by simp) (.cell g2 41 #[.int .i64 line, .slice Al fs.length cl] (0, 0) _ rfl HV4.out.done.1 Tryd.underlying41 rfl (by kernel_rfl) (.tmp .nil))) rfl ?_
      rw [HPC2.out]
      exact HV4.out.post
    · rw [hc] at hpc
      simp only at hpc
      have hco := X.colon_is a (by have := HAL.out; have := HM.out; omega) (a.length + 1) (by omega)
      rw [HS.out, hi] at hco
      have HCO := Aside0.mk hco
      have hex : s.extract 0 j = mkB (a.take j) := by rw [← HS.out, mkB_extract]; simp
      have hnm := refname_is (a.take j) (by rw [List.length_take]; have := HAL.out; have := HM.out; omega) (a.length + 1) (by rw [List.length_take]; omega)
      obtain ⟨nm, hnn⟩ : ∃ nm, s.extract 0 j = nm := ⟨_, rfl⟩
      rw [hnn] at hex
      rw [← hex] at hnm hpc
      have HNM := Aside0.mk hnm
      have hjs : (j : Int) ≤ (s.size : Int) := by have := HSZ.out; omega
      have hj0 : (0 : Int) ≤ (j : Int) := by omega
      have hjn : decide ((j : Int) < 0) = false := decide_eq_false (by omega)
      have HPCJ := Aside0.mk hpc
      have HHI := Aside0.mk hc
      have HJ := Aside0.mk hj
      have HNN := Aside0.mk hnn
      have HEX := Aside0.mk hex
      clear hpc hbl hi hc hco hnm hj hnn hex
      go_wp2_with fail
      refine (X.depotref21_colon.calls _ s (j : Int) _ HCO.out).mono ?_
      rintro e w4 ⟨rfl, hd4⟩
      have HV4 := Aside0.mk (HV3.out.on hd4.below)
      clear hd4
      clear c1 c0 f0 f1 d0 d1 e0 e1
      have c1 := (blk_cell HV4.out.b1 1).trans (show _ = some (Value.slice Al fs.length cl) from rfl)
      have c0 := (blk_cell HV4.out.b1 0).trans (show _ = some (Value.int .i64 line) from rfl)
      have f0 := blk_frozen HV4.out.b1 0
      have f1 := blk_frozen HV4.out.b1 1
      have d0 := (blk_cell HV4.out.b2 0).trans (show _ = some (Value.int .i64 0) from rfl)
      have d1 := (blk_cell HV4.out.b2 1).trans (show _ = some (Value.slice none 0 0) from rfl)
      have e0 := blk_frozen HV4.out.b2 0
      have e1 := blk_frozen HV4.out.b2 1
      go_wp2_with fail
      rw [HNN.out]
      refine (depotref21_Name.calls _ nm (nameL (a.take j)) _ HNM.out).mono ?_
      rintro e w5 ⟨rfl, hd5⟩
      have HV5 := Aside0.mk (HV4.out.on hd5.below)
      clear hd5
      clear c1 c0 f0 f1 d0 d1 e0 e1
      have c1 := (blk_cell HV5.out.b1 1).trans (show _ = some (Value.slice Al fs.length cl) from rfl)
      have c0 := (blk_cell HV5.out.b1 0).trans (show _ = some (Value.int .i64 line) from rfl)
      have f0 := blk_frozen HV5.out.b1 0
      have f1 := blk_frozen HV5.out.b1 1
      have d0 := (blk_cell HV5.out.b2 0).trans (show _ = some (Value.int .i64 0) from rfl)
      have d1 := (blk_cell HV5.out.b2 1).trans (show _ = some (Value.slice none 0 0) from rfl)
      have e0 := blk_frozen HV5.out.b2 0
      have e1 := blk_frozen HV5.out.b2 1
      cases hnm : nameL (a.take j) with
      | false =>
        have hpc := HPCJ.out
        rw [hnm, if_pos (by rfl)] at hpc
        have HPC2 := Aside0.mk hpc
        clear hpc hnm
        go_wp2_with fail
        refine bodyPost_ret (results_list (rs := [.cell 6 41, .tmp 7]) rfl (by simp) (.cell g2 41 #[.int .i64 line, .slice Al fs.length cl] (0, 0) _ rfl HV5.out.done.1 Tryd.underlying41 rfl (by kernel_rfl) (.tmp .nil))) rfl ?_
        rw [HPC2.out]
        exact HV5.out.post
      | true =>
        have hpc := HPCJ.out
        rw [hnm, if_neg (by decide)] at hpc
        have HPC3 := Aside0.mk hpc
        clear hpc hnm
        have hget : depotref21_Get.f (fs.length + 4 * M + 1) line fs nm = some (getR fs nm) := by
          have := refget_l0 line fs nm M HM.out (by rw [HEX.out, mkB_size, List.length_take]; have := HAL.out; omega) (fun f hf => (HBF.out f hf).1) HFL.out fs.length 0 (fs.length + 4 * M + 1) (by omega) (by omega) (by omega)
          rw [List.drop_zero] at this
          exact this
        have hgv : (getR fs nm).2 = hasF fs nm := rfl
        obtain ⟨gv, gb, hgr⟩ : ∃ gv gb, getR fs nm = (gv, gb) := ⟨_, _, rfl⟩
        rw [hgr] at hget hgv
        simp only at hgv
        have GT := Aside0.mk (show ∀ W', Below w5.heap.size w5 W' → Calls Tryd.prog 23 #[.agg #[.int .i64 line, .slice Al fs.length cl], .string (s.extract 0 j)] W' fun e w' => e = .returned (.tuple #[.string gv, .bool gb]) ∧ Below W'.heap.size W' w' from fun W' hW => by rw [HNN.out]; exact depotref21_Get.calls _ line Al cl fs nm gv gb W' (Kd.R_reads' (HV5.out.on hW).l).2.2 (Kd.R_reads' (HV5.out.on hW).l).2.1 hget)
        clear hget hgr
        cases hgb : gb with
        | true =>
          subst hgb
          have hpc := HPC3.out
          rw [if_pos hgv.symm] at hpc
          have HPC2 := Aside0.mk hpc
          clear hpc hgv
          go_wp2_with fail
          go_region_with (first | (go_at_call 23; (with_reducible refine (GT.out _ (Below.refl _ _).drew).mono ?_); rintro e w6 ⟨rfl, hb6⟩; have HV6 := Aside0.mk (HV5.out.on ((Below.refl _ _).drew.trans hb6)); clear hb6))
          all_goals
            clear c1 c0 f0 f1 d0 d1 e0 e1
            have c1 := (blk_cell HV6.out.b1 1).trans (show _ = some (Value.slice Al fs.length cl) from rfl)
            have c0 := (blk_cell HV6.out.b1 0).trans (show _ = some (Value.int .i64 line) from rfl)
            have f0 := blk_frozen HV6.out.b1 0
            have f1 := blk_frozen HV6.out.b1 1
            have d0 := (blk_cell HV6.out.b2 0).trans (show _ = some (Value.int .i64 0) from rfl)
            have d1 := (blk_cell HV6.out.b2 1).trans (show _ = some (Value.slice none 0 0) from rfl)
            have e0 := blk_frozen HV6.out.b2 0
            have e1 := blk_frozen HV6.out.b2 1
            go_wp2_with fail
            refine bodyPost_ret (results_list (rs := [.cell 6 41, .tmp 7]) rfl (by simp) (.cell g2 41 #[.int .i64 line, .slice Al fs.length cl] (0, 0) _ rfl HV6.out.done.1 Tryd.underlying41 rfl (by kernel_rfl) (.tmp .nil))) rfl ?_
            rw [HPC2.out]
            exact HV6.out.post
        | false =>
          subst hgb
          have hpc := HPC3.out
          rw [if_neg (by rw [← hgv]; decide)] at hpc
          have HPC3 := Aside0.mk hpc
          clear hpc hgv
          have hex2 : s.extract (j + 1) s.size = mkB (a.drop (j + 1)) := by
            rw [← HS.out, mkB_extract, mkB_size, List.take_of_length_le (by rw [List.length_drop]; omega)]
          obtain ⟨tv, htv⟩ : ∃ tv, mkB (trimC (a.drop (j + 1))) = tv := ⟨_, rfl⟩
          have htr := V.trim_is (a.drop (j + 1)) (by rw [List.length_drop]; have := HAL.out; have := HM.out; omega) (a.length + a.length + 3) (by rw [List.length_drop]; omega)
          rw [← hex2, htv] at htr
          have TRV := Aside0.mk (show ∀ W', Calls Tryd.prog 35 #[.string (s.extract (j + 1) s.size)] W' fun e w' => e = .returned (.string tv) ∧ Below W'.heap.size W' w' from fun W' => (V.depotref21_Trim.calls _ _ tv W' htr).mono (fun e w' h => ⟨h.1, h.2.below⟩))
          have hfc : fieldC a = ⟨s.extract 0 j, tv⟩ := by unfold fieldC; rw [HHI.out, ← htv, HNN.out, HEX.out]
          have hj1 : (j : Int) + 1 ≤ (s.size : Int) := by have := HSZ.out; have := HJ.out; omega
          have hj2 : (0 : Int) ≤ (j : Int) + 1 := by omega
          have hj3 : ((j : Int) + 1).toNat = j + 1 := by omega
          have hj4 : IntKind.i64.wrap ((j : Int) + 1) = (j : Int) + 1 := IntWalk.i64_in _ (by have := HSZ.out; have := HJ.out; have := HAL.out; have := HM.out; omega)
          have HFC := Aside0.mk hfc
          clear hex2 htv htr hfc
          go_wp2_with fail
          go_region_with (first | (go_at_call 23; (with_reducible refine (GT.out _ (Below.refl _ _).drew).mono ?_); rintro e w6 ⟨rfl, hb6⟩; have HV6 := Aside0.mk (HV5.out.on ((Below.refl _ _).drew.trans hb6)); clear hb6))
          all_goals
            clear c1 c0 f0 f1 d0 d1 e0 e1
            have c1 := (blk_cell HV6.out.b1 1).trans (show _ = some (Value.slice Al fs.length cl) from rfl)
            have c0 := (blk_cell HV6.out.b1 0).trans (show _ = some (Value.int .i64 line) from rfl)
            have f0 := blk_frozen HV6.out.b1 0
            have f1 := blk_frozen HV6.out.b1 1
            have d0 := (blk_cell HV6.out.b2 0).trans (show _ = some (Value.int .i64 0) from rfl)
            have d1 := (blk_cell HV6.out.b2 1).trans (show _ = some (Value.slice none 0 0) from rfl)
            have e0 := blk_frozen HV6.out.b2 0
            have e1 := blk_frozen HV6.out.b2 1
            by_cases hfs : fs = []
            · have hz : ((fs.length : Int) == 0) = true := by rw [hfs]; rfl
              have hpc := HPC3.out
              rw [if_pos hfs, HFC.out] at hpc
              have HPC4 := Aside0.mk hpc
              have HVY := Aside0.mk (HV6.out.setLine n)
              clear hpc hfs
              go_wp2_with fail
              go_region_law (first
                | (refine Kd.R_append_step k50 (w0 := w12) base ?hw_a (.tmp 66) (.tmp 76) 39 50 (.agg #[.string ⟨#[]⟩, .string ⟨#[]⟩]) 32 ?ho_a Tryd.underlying39 info50 rfl (by decide) (by decide) (.slice Al fs.length cl) fs (⟨s.extract 0 j, tv⟩ : S50) [.string (s.extract 0 j), .string tv] (fun k => ok k ∧ k ≠ g1 ∧ k ≠ g2) (fun _ => False) ?hs_a ?hx_a ?aP_a (fun _ hk => hk.elim) ?aF_a ?aO_a ?aB_a ?aS_a ?aL_a ?_; (case hw_a => first | rfl | simp [Region.wanted]); (case ho_a => rfl); (case hs_a => first | rfl | simp [Act.eval, Act.put]); (case hx_a => first | rfl | simp [Act.eval, Act.put]); (case aP_a => exact k50_mkM _ _ _ _); (case aF_a => exact (fun k hk => ⟨HOK.out k (Nat.le_trans HRZ.out.grown.size hk), fun e => (by subst e; have := blk_lt HRZ.out.b1; omega), fun e => (by subst e; have := blk_lt HRZ.out.b2; omega)⟩)); (case aO_a => exact HRZ.out.l); (case aB_a => exact Below.refl _ _); (case aS_a => exact Nat.le_trans hbase HRZ.out.grown.size); (case aL_a => have := HFL.out; have := HM.out; omega); intro v1 w13 ho hb hg hat; obtain ⟨A1, cc1, ee1⟩ := Kd.R_slice ho; subst ee1; have hbk := blk_grown HRZ.out.b1 hg (Kd.R_away HRZ.out.l (fun k hk => hk.2.1)); have hbk2 := blk_grown HRZ.out.b2 hg (Kd.R_away HRZ.out.l (fun k hk => hk.2.2)); have y1 := blk_frozen hbk 1; have x1 := (blk_cell hbk 1).trans (show _ = some (Value.slice Al fs.length cl) from rfl); have x0 := (blk_cell hbk 0).trans (show _ = some (Value.int .i64 n) from rfl); have y20 := blk_frozen hbk2 0; have y21 := blk_frozen hbk2 1; have x20 := (blk_cell hbk2 0).trans (show _ = some (Value.int .i64 0) from rfl); have x21 := (blk_cell hbk2 1).trans (show _ = some (Value.slice none 0 0) from rfl); have HRF := Aside0.mk (PtV.appended HRZ.out ho hg hat); clear ho hb hg hat hbk hbk2)
                | (refine G.step_call (by first | rfl | simp [Region.wanted]) 35 _ _ rfl #[.string (s.extract (j + 1) s.size)] (by first | rfl | simp [Act.eval, Act.put]) (fun _ _ => rfl) (TRV.out _) ?_; rintro e w12 ⟨rfl, hb12⟩; refine ⟨_, rfl, ?_⟩; have HRZ := Aside0.mk (HVY.out.on (w' := w12) ((Below.refl _ _).drew.trans hb12)); have z1 := (blk_cell HRZ.out.b1 1).trans (show _ = some (Value.slice Al fs.length cl) from rfl); have za := (fun o : Obj => ((blk_cell (blk_alloc HRZ.out.b1 o) 1).trans (show _ = some (Value.slice Al fs.length cl) from rfl) : (w12.alloc o).cell? ⟨g1, 1, none⟩ = some (Value.slice Al fs.length cl))); clear hb12))
              all_goals
                have hvf := HRF.out
                rw [show (fs ++ [(⟨s.extract 0 j, tv⟩ : S50)]).length = fs.length + 1 by simp] at hvf
                have HVF := Aside0.mk hvf
                clear hvf
                go_wp2_with fail
                refine bodyPost_ret (results_list (rs := [.cell 6 41, .tmp 7]) rfl (by simp) (.cell g2 41 #[.int .i64 n, .slice A1 (fs.length + 1) cc1] (0, 0) _ rfl HVF.out.done.1 Tryd.underlying41 rfl (by kernel_rfl) (.tmp .nil))) rfl ?_
                rw [HPC4.out]
                exact HVF.out.post
            · have hz : ((fs.length : Int) == 0) = false := beq_eq_false_iff_ne.2 (fun e => hfs (List.eq_nil_of_length_eq_zero (by omega)))
              have hpc := HPC3.out
              rw [if_neg hfs, HFC.out] at hpc
              have HPC4 := Aside0.mk hpc
              have HVY := HV6
              clear hpc hfs
              go_wp2_with fail
              go_region_law (first
                | (refine Kd.R_append_step k50 (w0 := w12) base ?hw_b (.tmp 66) (.tmp 76) 39 50 (.agg #[.string ⟨#[]⟩, .string ⟨#[]⟩]) 32 ?ho_b Tryd.underlying39 info50 rfl (by decide) (by decide) (.slice Al fs.length cl) fs (⟨s.extract 0 j, tv⟩ : S50) [.string (s.extract 0 j), .string tv] (fun k => ok k ∧ k ≠ g1 ∧ k ≠ g2) (fun _ => False) ?hs_b ?hx_b ?aP_b (fun _ hk => hk.elim) ?aF_b ?aO_b ?aB_b ?aS_b ?aL_b ?_; (case hw_b => first | rfl | simp [Region.wanted]); (case ho_b => rfl); (case hs_b => first | rfl | simp [Act.eval, Act.put]); (case hx_b => first | rfl | simp [Act.eval, Act.put]); (case aP_b => exact k50_mkM _ _ _ _); (case aF_b => exact (fun k hk => ⟨HOK.out k (Nat.le_trans HRZ.out.grown.size hk), fun e => (by subst e; have := blk_lt HRZ.out.b1; omega), fun e => (by subst e; have := blk_lt HRZ.out.b2; omega)⟩)); (case aO_b => exact HRZ.out.l); (case aB_b => exact Below.refl _ _); (case aS_b => exact Nat.le_trans hbase HRZ.out.grown.size); (case aL_b => have := HFL.out; have := HM.out; omega); intro v1 w13 ho hb hg hat; obtain ⟨A1, cc1, ee1⟩ := Kd.R_slice ho; subst ee1; have hbk := blk_grown HRZ.out.b1 hg (Kd.R_away HRZ.out.l (fun k hk => hk.2.1)); have hbk2 := blk_grown HRZ.out.b2 hg (Kd.R_away HRZ.out.l (fun k hk => hk.2.2)); have y1 := blk_frozen hbk 1; have x1 := (blk_cell hbk 1).trans (show _ = some (Value.slice Al fs.length cl) from rfl); have x0 := (blk_cell hbk 0).trans (show _ = some (Value.int .i64 line) from rfl); have y20 := blk_frozen hbk2 0; have y21 := blk_frozen hbk2 1; have x20 := (blk_cell hbk2 0).trans (show _ = some (Value.int .i64 0) from rfl); have x21 := (blk_cell hbk2 1).trans (show _ = some (Value.slice none 0 0) from rfl); have HRF := Aside0.mk (PtV.appended HRZ.out ho hg hat); clear ho hb hg hat hbk hbk2)
                | (refine G.step_call (by first | rfl | simp [Region.wanted]) 35 _ _ rfl #[.string (s.extract (j + 1) s.size)] (by first | rfl | simp [Act.eval, Act.put]) (fun _ _ => rfl) (TRV.out _) ?_; rintro e w12 ⟨rfl, hb12⟩; refine ⟨_, rfl, ?_⟩; have HRZ := Aside0.mk (HVY.out.on (w' := w12) ((Below.refl _ _).drew.trans hb12)); have z1 := (blk_cell HRZ.out.b1 1).trans (show _ = some (Value.slice Al fs.length cl) from rfl); have za := (fun o : Obj => ((blk_cell (blk_alloc HRZ.out.b1 o) 1).trans (show _ = some (Value.slice Al fs.length cl) from rfl) : (w12.alloc o).cell? ⟨g1, 1, none⟩ = some (Value.slice Al fs.length cl))); clear hb12))
              all_goals
                have hvf := HRF.out
                rw [show (fs ++ [(⟨s.extract 0 j, tv⟩ : S50)]).length = fs.length + 1 by simp] at hvf
                have HVF := Aside0.mk hvf
                clear hvf
                go_wp2_with fail
                refine bodyPost_ret (results_list (rs := [.cell 6 41, .tmp 7]) rfl (by simp) (.cell g2 41 #[.int .i64 line, .slice A1 (fs.length + 1) cc1] (0, 0) _ rfl HVF.out.done.1 Tryd.underlying41 rfl (by kernel_rfl) (.tmp .nil))) rfl ?_
                rw [HPC4.out]
                exact HVF.out.post
end Go.Proofs.YtbaiglikmneicaaDoor.P
end
section
set_option linter.unusedVariables false
set_option linter.unusedSimpArgs false
namespace Go.Proofs.YtbaiglikmneicaaDoor.P
open Go.RowKit Go.Lib Go.Proofs.YtbaiglikmneicaaDoorW.PrintWords Go.Proofs.YtbaiglikmneicaaDoorW.PrintLast Go.Proofs.YtbaiglikmneicaaDoorW.PrintMore
open Go.Proofs.YtbaiglikmneicaaDoor.R (mkB mkB_size mkB_data mkB_extract linesA linesA_nil linesA_cons cut_len)
open Go.Proofs.YtbaiglikmneicaaDoor.C (fairL)

def massA : List (List UInt8) → Nat
  | [] => 0
  | l :: r => l.length + 1 + massA r
theorem massA_app : ∀ (L K : List (List UInt8)), massA (L ++ K) = massA L + massA K
  | [], K => by simp [massA]
  | a :: L, K => by simp only [List.cons_append, massA, massA_app L K]; omega
theorem massA_take (L : List (List UInt8)) (i : Nat) (h : i < L.length) : massA (L.take (i + 1)) = massA (L.take i) + (L[i].length + 1) := by
  rw [List.take_add_one, List.getElem?_eq_getElem h, massA_app]
  simp [massA]
theorem massA_le (L : List (List UInt8)) (i : Nat) : massA (L.take i) ≤ massA L := by
  have h := congrArg massA (List.take_append_drop i L)
  rw [massA_app] at h
  omega
theorem massA_len : ∀ L : List (List UInt8), L.length ≤ massA L := by
  intro L
  induction L with
  | nil => exact Nat.le_refl _
  | cons l r ih => show r.length + 1 ≤ l.length + 1 + massA r; omega
theorem massA_mem : ∀ (L : List (List UInt8)), ∀ l ∈ L, l.length + 1 ≤ massA L := by
  intro L
  induction L with
  | nil => intro l h; cases h
  | cons a r ih =>
    intro l h
    show l.length + 1 ≤ a.length + 1 + massA r
    rcases List.mem_cons.1 h with rfl | h
    · omega
    · have := ih l h; omega
theorem cut_sum1 (l : List UInt8) (h : (cut l [10]).2.1 ≠ []) : (cut l [10]).1.length + 1 + (cut l [10]).2.1.length ≤ l.length := by
  have hp := List.length_pos_iff.2 h
  unfold cut at hp ⊢
  split
  · rename_i hc
    rw [if_pos hc] at hp
    simp only [List.length_take, List.length_drop, List.length_cons, List.length_nil] at hp ⊢
    omega
  · rename_i hc
    rw [if_neg hc] at hp
    simp at hp
theorem massA_lines (n : Nat) : ∀ l : List UInt8, l.length = n → massA (linesA l) ≤ l.length + 1 := by
  induction n using Nat.strongRecOn with
  | ind n ih =>
    intro l hn
    by_cases hl : l = []
    · subst hl; rw [linesA_nil]; simp [massA]
    · rw [linesA_cons l hl]
      show (cut l [10]).1.length + 1 + massA _ ≤ _
      by_cases hr : (cut l [10]).2.1 = []
      · rw [hr, linesA_nil]
        have h1 := (cut_parts l [10]).1
        simp only [massA]
        omega
      · have hp := List.length_pos_iff.2 hr
        have h2 := cut_sum1 l hr
        have h1 := ih _ (by omega) (cut l [10]).2.1 rfl
        omega
theorem trim_hash (a : List UInt8) (h : trimC a = []) : hasPrefix a [35] = false := by
  cases a with
  | nil => rfl
  | cons b t =>
    rw [hasPrefix_one]
    obtain ⟨x, y, e, hx, hy⟩ := trim_parts (b :: t)
    rw [h, List.append_nil] at e
    have hb : b ∈ x ++ y := by rw [← e]; exact List.mem_cons_self ..
    have hbl : blankB b = true := by
      rcases List.mem_append.1 hb with h | h
      · exact hx b h
      · exact hy b h
    rcases (blankB_iff b).1 hbl with e | e
    · subst e; rfl
    · subst e; rfl
theorem step_put (st : CS) (a : List UInt8) (n : Nat) (h1 : fairL false a = true) (h2 : hasPrefix a [35] = false) (h3 : trimC a ≠ []) : stepC st a n = (⟨st.out, (putC st.line st.fs a n).1, (putC st.line st.fs a n).2.1⟩, (putC st.line st.fs a n).2.2) := by
  unfold stepC putC
  rw [if_neg (by rw [h1]; decide), if_neg (by rw [h2]; decide), if_neg h3]
  repeat' split
  all_goals first | rfl | simp_all
theorem putC_bnd {line n : Int} {fs : List S50} {a : List UInt8} {B : Nat} (hz : (putC line fs a n).2.2 = 0) (hf : BndF B fs) : BndF (B + (1 + a.length)) (putC line fs a n).2.1 ∧ (putC line fs a n).2.1.length ≤ fs.length + 1 ∧ (putC line fs a n).2.1 ≠ [] := by
  unfold putC at hz ⊢
  by_cases c1 : (hasPrefix a [32] || hasPrefix a [9]) = true
  · rw [if_pos c1] at hz ⊢
    by_cases c2 : fs = []
    · rw [if_pos c2] at hz; cases hz
    · rw [if_neg c2]
      have hl : (moreC fs (trimC a)).length = fs.length := by unfold moreC; rw [List.length_set]
      have ht := trimC_length a
      refine ⟨(hf.more (trimC a)).mono (by omega), by show (moreC _ _).length ≤ _; omega, ?_⟩
      intro e
      have e' : moreC fs (trimC a) = [] := e
      rw [e'] at hl
      exact c2 (List.eq_nil_of_length_eq_zero hl.symm)
  · rw [if_neg c1] at hz ⊢
    by_cases c2 : (!(cut a [58]).2.2 || !nameL (cut a [58]).1) = true
    · rw [if_pos c2] at hz; cases hz
    · rw [if_neg c2] at hz ⊢
      by_cases c3 : hasF fs (mkB (cut a [58]).1) = true
      · rw [if_pos c3] at hz; cases hz
      · rw [if_neg c3]
        have hp := cut_parts a [58]
        have ht := trimC_length (cut a [58]).2.1
        refine ⟨(hf.mono (by omega)).snoc ?_ ?_, by simp, by simp⟩
        · show (mkB _).size ≤ _
          rw [mkB_size]; omega
        · show (mkB _).size ≤ _
          rw [mkB_size]; omega
/-- The stanza under way written over. -/
theorem RcV.put {w0 w w1 : World} {g : Nat} {vl vf v1 : Value} {st : CS} {n : Int} {fs1 : List S50} (h : RcV w0 g vl vf st w) (ho : Kd.R k50 50 w1 w0.heap.size (fun k_ => k_ ≠ g) v1 fs1) (hg : w.grownBy w1 vf.ownBlock) (hat : v1.ownBlock = vf.ownBlock ∨ ∃ b, v1.ownBlock = some b ∧ w.heap.size ≤ b) :
    RcV w0 g vl v1 ⟨st.out, n, fs1⟩ ((w1.setCell ⟨g, 0, none⟩ (.int .i64 n)).setCell ⟨g, 1, none⟩ v1) := by
  have hbk := blk_grown h.blk hg (Kd.R_away h.l (fun k hk => hk))
  have hs := Kd.S_after (ok := fun k_ => k_ ≠ g) h.s hg hat
  have hb := pw_below_grown h.below _ h.below.size hg (Kd.R_base h.l)
  exact ⟨blk_put (blk_put hbk 0 _ rfl) 1 _ rfl, Kd.S_far (Kd.S_far hs (fun k hk => hk.1) _) (fun k hk => hk.1) _, Kd.R_far (Kd.R_far ho (fun k hk => hk) _) (fun k hk => hk) _, (hb.setCell (p := ⟨g, 0, none⟩) h.le _).setCell (p := ⟨g, 1, none⟩) h.le _, h.le⟩
/-- The stanza under way left. -/
theorem RcV.reset {w0 w : World} {g : Nat} {vl vf : Value} {st : CS} (h : RcV w0 g vl vf st w) : RcV w0 g vl (.slice none 0 0) ⟨st.out, 0, []⟩ ((w.setCell ⟨g, 0, none⟩ (.int .i64 0)).setCell ⟨g, 1, none⟩ (.slice none 0 0)) :=
  ⟨blk_put (blk_put h.blk 0 _ rfl) 1 _ rfl, Kd.S_mono (Kd.S_far (Kd.S_far h.s (fun k hk => hk.1) _) (fun k hk => hk.1) _) (fun k hk => ⟨hk.1, by simp [Value.ownBlock]⟩), Kd.R_nil _ _ _ _ _, (h.below.setCell (p := ⟨g, 0, none⟩) h.le _).setCell (p := ⟨g, 1, none⟩) h.le _, h.le⟩
structure BndI (L : List (List UInt8)) (i : Nat) (st : CS) : Prop where
  out : st.out.length ≤ i
  fs : st.fs.length ≤ i
  f : BndF (massA (L.take i)) st.fs
  z : st.fs = [] → st.line = 0
def RRel (s : ByteArray) (L : List (List UInt8)) (w1 : World) (g : Nat) (lv iv : Value) (wr : World) : Prop :=
  ∃ (i : Nat) (st : CS) (vf : Value), iv = .int .i64 i ∧ i ≤ L.length ∧ Aside0 (restC st i (L.drop i) = readC s) ∧ Aside0 (RcV w1 g lv vf st wr) ∧ Aside0 (BndI L i st)
theorem rc_fresh {w0 w1 : World} {g : Nat} (hg : g = w0.heap.size) (hb : w1.heap[g]? = some (.cells #[.int .i64 0, .slice none 0 0] 41 (0, 0))) (h : Below w0.heap.size w0 w1) : RcV w0 g (.slice none 0 0) (.slice none 0 0) cs0 w1 :=
  ⟨hb, Kd.S_nil _ _ _ _ _, Kd.R_nil _ _ _ _ _, h, by omega⟩
end Go.Proofs.YtbaiglikmneicaaDoor.P
end
section
set_option linter.unusedVariables false
set_option linter.unusedSimpArgs false
namespace Go.Proofs.YtbaiglikmneicaaDoor.P
open Go.RowKit Go.Lib Go.Proofs.YtbaiglikmneicaaDoorW.PrintWords Go.Proofs.YtbaiglikmneicaaDoorW.PrintLast Go.Proofs.YtbaiglikmneicaaDoorW.PrintMore
open Go.Proofs.YtbaiglikmneicaaDoor.R (mkB mkB_size mkB_data mkB_extract linesA linesA_nil linesA_cons linesL_is cut_len)
open Go.Proofs.YtbaiglikmneicaaDoor.C (fairL)

set_option maxHeartbeats 8000000 in
set_option maxRecDepth 100000 in
theorem refread_walk (s : ByteArray) (w : World) (hs : s.size ≤ 2147483640) : Calls Tryd.prog 13 #[.string s] w (PostC w s) := by
  obtain ⟨L, hL⟩ : ∃ L, linesA s.data.toList = L := ⟨_, rfl⟩
  have hsl : s.data.toList.length = s.size := (size_eq s).symm
  have hmass := massA_lines _ s.data.toList rfl
  have hln : X.depotref03_Lines.f (s.size + 2) s = some (L.map mkB) := by
    rw [X.lines_is s (by omega) _ (by omega), ← hL]
    show some ((R.linesL s.size s.data.toList).map mkB) = _
    rw [linesL_is _ _ (by omega)]
  have hrd : readC s = restC cs0 0 L := by unfold readC; rw [hL]
  rw [hL, hsl] at hmass
  have hlen := massA_len L
  have HLN := Aside0.mk hln
  have HRD := Aside0.mk hrd
  have HMS := Aside0.mk hmass
  have HLE := Aside0.mk (show L.length ≤ 2147483641 by omega)
  have HS := Aside0.mk hs
  clear hln hrd hmass hlen hsl hL hs
  go_enter Tryd.func13, Tryd.ntmps13
  go_wp2_with fail
  refine (X.depotref03_Lines.calls (s.size + 2) s (L.map mkB) _ HLN.out).mono ?_
  rintro e w1 ⟨v1, rfl, hR, hb1⟩
  obtain ⟨A, c, rfl, hl, hC⟩ := Kd.R_reads hR
  rw [List.length_map] at hC hl
  have HC := Aside0.mk hC
  have HB1 := Aside0.mk hb1
  have HL := Aside0.mk hl
  clear hR hb1 hC hl
  rw [List.length_map]
  go_wp2_with (first | ((with_reducible refine gate_dst (N := 7) rfl ?_); refine box_event ?hg1 (N := 7) ?hd1 (cs := #[.int .i64 0, .slice none 0 0]) (t := 41) ?hr1 ?_; (case hd1 => rfl); (case hg1 => rfl); (case hr1 => first | (go_simp; done) | (go_simp; rfl)); intro g hg w2 hbox hb2; have HV := Aside0.mk (rc_fresh hg hbox hb2); have e0 := blk_frozen hbox 0; have e1 := blk_frozen hbox 1; have d0 := (blk_cell hbox 0).trans (show _ = some (Value.int .i64 0) from rfl); have d1 := (blk_cell hbox 1).trans (show _ = some (Value.slice none 0 0) from rfl); clear hbox hb2 hg))
  clear e0 e1 d0 d1
  have HV2 := Aside0.mk HV.out.reset
  go_loopw [5, 8] (RRel s L w1 g) (fun lv iv _ => L.length - (RowKit.intOf iv).toNat)
  case atStart =>
    exact ⟨0, cs0, _, rfl, Nat.zero_le _, ⟨by rw [List.drop_zero]; exact HRD.out.symm⟩, ⟨HV2.out⟩, ⟨⟨Nat.zero_le _, Nat.zero_le _, BndF.nil _, fun _ => rfl⟩⟩⟩
  case round =>
    clear HV HV2
    obtain ⟨i, st, vf, rfl, hil, HD, HRC, HBI⟩ := hrel
    obtain ⟨Al, cl, el⟩ := Kd.R_slice HRC.out.l
    subst el
    obtain ⟨Ao, co, eo⟩ := Kd.R_slice (Kd.S_R HRC.out.s)
    subst eo
    have HBW := Aside0.mk (HB1.out.trans (HRC.out.below.mono HB1.out.size))
    have b1 := (blk_cell HRC.out.blk 1).trans (show _ = some (Value.slice Al st.fs.length cl) from rfl)
    have b0 := (blk_cell HRC.out.blk 0).trans (show _ = some (Value.int .i64 st.line) from rfl)
    have f0 := blk_frozen HRC.out.blk 0
    have f1 := blk_frozen HRC.out.blk 1
    have hgl := HRC.out.le
    by_cases hlt : i < L.length
    · have hd := HD.out
      rw [List.drop_eq_getElem_cons hlt, restC] at hd
      obtain ⟨ad, e2, hy⟩ := Kd.at_string (Kd.C_below HC.out HRC.out.below) (i : Int) (by omega) (by omega)
      subst e2
      rw [rd_map L i hlt] at hy
      simp only [Int.toNat_natCast] at hy
      have hmem := massA_mem L L[i] (List.getElem_mem hlt)
      have htk := massA_take L i hlt
      have hle := massA_le L (i + 1)
      obtain ⟨a, ha⟩ : ∃ a, L[i] = a := ⟨_, rfl⟩
      rw [ha] at hd hy hmem htk
      have STEP := Aside0.mk (show ∀ st', stepC st a (i + 1) = (st', 0) → restC st' (i + 1) (L.drop (i + 1)) = readC s from fun st' h => by rw [h] at hd; simpa using hd)
      have FAIL := Aside0.mk (show ∀ st' (e : Int), stepC st a (i + 1) = (st', e) → e ≠ 0 → readC s = ([], e, ((i + 1 : Nat) : Int)) from fun st' e h he => by rw [h] at hd; simp only at hd; rw [if_neg he] at hd; exact hd.symm)
      have hal : a.length ≤ 2147483640 := by have := HMS.out; have := HS.out; omega
      have HAL := Aside0.mk hal
      have HTK := Aside0.mk htk
      have HLE2 := Aside0.mk hle
      have HFA := Aside0.mk (V.fair_is false a (by omega) (a.length * 7 + 8) (by omega))
      have HTR := Aside0.mk (V.trim_is a (by omega) (a.length + a.length + 3) (by omega))
      obtain ⟨t, ht⟩ : ∃ t, mkB a = t := ⟨_, rfl⟩
      obtain ⟨tr, htr⟩ : ∃ tr, mkB (trimC a) = tr := ⟨_, rfl⟩
      have hts : t.size = a.length := by rw [← ht, mkB_size]
      have htrs : tr.size = (trimC a).length := by rw [← htr, mkB_size]
      rw [ht] at hy HFA HTR
      rw [htr] at HTR
      have HT := Aside0.mk ht
      have HTS := Aside0.mk hts
      have HTRS := Aside0.mk htrs
      have hatl := World.block_lt_of_cell? _ _ hy
      have HILT := Aside0.mk hlt
      have hii : (i : Int) + 1 ≤ 2147483641 := by have := HLE.out; omega
      have hi0 : (0 : Int) ≤ (i : Int) + 1 := by omega
      clear hd ha hmem htk hle hal htr hts htrs
      have c0b : decide ((i : Int) < (L.length : Int)) = true := decide_eq_true (by omega)
      have c0c : decide (i < L.length) = true := decide_eq_true hlt
      clear ht
      go_wp2_with fail
      refine (V.depotref21_Fair.calls _ t false (fairL false a) _ HFA.out).mono ?_
      rintro e w3 ⟨rfl, hd3⟩
      have HR3 := Aside0.mk (HRC.out.on hd3.below)
      clear hd3 b0 b1 f0 f1 hy
      cases hfair : fairL false a with
      | false =>
        have HX := Aside0.mk (FAIL.out st 212 (by unfold stepC; rw [if_pos hfair]) (by decide))
        have HBX := Aside0.mk (HB1.out.trans (HR3.out.below.mono HB1.out.size))
        clear hfair
        go_wp2_with fail
        go_ret3
        exact PostC.of (v := .slice none 0 0) HX.out (Kd.S_nil _ _ _ _ _) HBX.out
      | true =>
        have HF1 := Aside0.mk hfair
        clear hfair
        go_wp2_with fail
        refine (V.depotref21_Trim.calls _ t tr _ HTR.out).mono ?_
        rintro e w4 ⟨rfl, hd4⟩
        have HR4 := Aside0.mk (HR3.out.on hd4.below)
        clear hd4
        have b1 := (blk_cell HR4.out.blk 1).trans (show _ = some (Value.slice Al st.fs.length cl) from rfl)
        have b0 := (blk_cell HR4.out.blk 0).trans (show _ = some (Value.int .i64 st.line) from rfl)
        have f0 := blk_frozen HR4.out.blk 0
        have f1 := blk_frozen HR4.out.blk 1
        by_cases htr : trimC a = []
        · have c1 : ((tr.size : Int) == 0) = true := by rw [HTRS.out, htr]; rfl
          have c1' : (tr.size == 0) = true := by rw [HTRS.out, htr]; rfl
          have HX := Aside0.mk (STEP.out (gapC st) (by unfold stepC; rw [if_neg (by rw [HF1.out]; decide), if_neg (by rw [trim_hash a htr]; decide), if_pos htr]))
          clear htr
          by_cases hfs : st.fs = []
          · have hz : decide (0 < (st.fs.length : Int)) = false := by rw [hfs]; rfl
            have hz' : decide (0 < st.fs.length) = false := by rw [hfs]; rfl
            have HX2 := Aside0.mk (show restC ⟨st.out, 0, []⟩ (i + 1) (L.drop (i + 1)) = readC s from by
              have h := HX.out
              have e : gapC st = ⟨st.out, 0, []⟩ := by
                unfold gapC
                rw [if_pos hfs]
                have := HBI.out.z hfs
                obtain ⟨o, l, f⟩ := st
                simp only at this hfs
                rw [this, hfs]
              rw [e] at h
              exact h)
            clear hfs
            go_wp2_with fail
            go_roundw
            case rel => exact ⟨i + 1, ⟨st.out, 0, []⟩, _, by go_num, by have := HILT.out; omega, HX2, ⟨HR4.out.reset⟩, ⟨⟨by have := HBI.out.out; show st.out.length ≤ _; omega, Nat.zero_le _, BndF.nil _, fun _ => rfl⟩⟩⟩
            case measure => simp [RowKit.intOf]; have := HILT.out; omega
          · have hp := List.length_pos_iff.2 hfs
            have hz : decide (0 < (st.fs.length : Int)) = true := decide_eq_true (by omega)
            have hz' : decide (0 < st.fs.length) = true := decide_eq_true hp
            have HX2 := Aside0.mk (show restC ⟨st.out ++ [⟨st.line, st.fs⟩], 0, []⟩ (i + 1) (L.drop (i + 1)) = readC s from by
              have h := HX.out
              have e : gapC st = ⟨st.out ++ [⟨st.line, st.fs⟩], 0, []⟩ := by
                unfold gapC
                rw [if_neg hfs]
              rw [e] at h
              exact h)
            have hol : st.out.length ≤ 2147483641 := by have := HBI.out.out; have := HLE.out; have := HILT.out; omega
            clear hfs hp
            go_wp2_with (first | (at_builtin; refine Kd.S_append k41 (w0 := w1) w1.heap.size rfl (.tmp 38) (.tmp 40) 23 41 (.agg #[.int .i64 0, .slice none 0 0]) 32 rfl Tryd.underlying23 info41 rfl (by decide) (by decide) (.slice Ao st.out.length co) st.out (⟨st.line, st.fs⟩ : S41) [.int .i64 st.line, .slice Al st.fs.length cl] (fun k_ => k_ ≠ g) (fun k_ => some k_ = (Value.slice Al st.fs.length cl).ownBlock) ?hs ?hx ?aP ?aK ?aF ?aO ?aB ?aS ?aL ?_; (case hs => first | rfl | simp [Act.eval, Act.put]); (case hx => first | rfl | simp [Act.eval, Act.put]); (case aP => exact k41_mkM _ _ _ (⟨st.line, st.fs⟩ : S41) (Kd.R_tight rfl HR4.out.l)); (case aK => exact (fun k hk => ⟨HR4.out.l.1 k hk.symm, fun e => ((Kd.S_R HR4.out.s).1 k e.symm).2 hk⟩)); (case aF => exact (fun k hk e => by subst e; have := blk_lt HR4.out.blk; omega)); (case aO => exact Kd.S_mono HR4.out.s (fun k hk => ⟨hk.1, fun e => hk.2 e⟩)); (case aB => exact HR4.out.below); (case aS => exact HR4.out.below.size); (case aL => omega); intro v1 w5 ho hb hg hat; obtain ⟨Ao, co, eo⟩ := Kd.R_slice (Kd.S_R ho); subst eo; have hbk := blk_grown HR4.out.blk hg (Kd.S_away HR4.out.s (fun k hk => hk.1)); have x0 : w5.cell? ⟨g, 0, none⟩ = some (.int .i64 st.line) := (blk_cell hbk 0).trans rfl; have x1 : w5.cell? ⟨g, 1, none⟩ = some (.slice Al st.fs.length cl) := (blk_cell hbk 1).trans rfl; have y0 := blk_frozen hbk 0; have y1 := blk_frozen hbk 1; have HSS := Aside0.mk (RcV.closed HR4.out ho hb hg); clear hbk; clear ho hb hg hat))
            go_roundw
            case rel =>
              have hS := HSS.out
              rw [show (st.out ++ [(⟨st.line, st.fs⟩ : S41)]).length = st.out.length + 1 by simp] at hS
              exact ⟨i + 1, _, _, by go_num, by have := HILT.out; omega, HX2, ⟨hS⟩, ⟨⟨by have := HBI.out.out; simp; omega, Nat.zero_le _, BndF.nil _, fun _ => rfl⟩⟩⟩
            case measure => simp [RowKit.intOf]; have := HILT.out; omega
        · have c1 : ((tr.size : Int) == 0) = false := beq_eq_false_iff_ne.2 (by rw [HTRS.out]; intro e; exact htr (List.eq_nil_of_length_eq_zero (by omega)))
          have c1' : (tr.size == 0) = false := beq_eq_false_iff_ne.2 (by rw [HTRS.out]; intro e; exact htr (List.eq_nil_of_length_eq_zero (by omega)))
          have HTRN := Aside0.mk htr
          have hne : a ≠ [] := fun e => htr (by rw [e]; rfl)
          have HNE := Aside0.mk hne
          obtain ⟨b, r, hbr⟩ : ∃ b r, a = b :: r := by
            cases a with
            | nil => exact absurd rfl hne
            | cons b r => exact ⟨b, r, rfl⟩
          have hpos : 0 < a.length := List.length_pos_iff.2 hne
          have hb0 : bt t 0 = (b.toNat : Int) := by
            have := X.bt_mk a 0 hpos
            rw [HT.out] at this
            refine this.trans ?_
            subst hbr
            rfl
          have hq : 0 < t.size := by rw [HTS.out]; exact hpos
          have q5 := eq_true hq
          have hx5 : ∀ h : 0 < t.size, ((t[0]'h).toNat : Int) = bt t 0 := bt_at t 0
          have qi5 := eq_true (show 0 < (t.size : Int) by omega)
          have hpre : hasPrefix a [35] = (35 == b) := by rw [hbr, hasPrefix_one]
          clear htr hpos hq hne hbr
          by_cases h35 : b = 35
          · have c2 : (bt t 0 == 35) = true := by rw [hb0, h35]; rfl
            have HX := Aside0.mk (STEP.out st (by unfold stepC; rw [if_neg (by rw [HF1.out]; decide), if_pos (by rw [hpre, h35]; rfl)]))
            clear h35 hb0 hpre
            go_wp2_with fail
            go_roundw
            case rel => exact ⟨i + 1, st, _, by go_num, by have := HILT.out; omega, HX, ⟨HR4.out⟩, ⟨⟨by have := HBI.out.out; omega, by have := HBI.out.fs; omega, HBI.out.f.mono (by rw [HTK.out]; omega), HBI.out.z⟩⟩⟩
            case measure => simp [RowKit.intOf]; have := HILT.out; omega
          · have c2 : (bt t 0 == 35) = false := beq_eq_false_iff_ne.2 (by rw [hb0]; intro e; exact h35 (UInt8.toNat_inj.1 (by show b.toNat = 35; omega)))
            have hp2 : hasPrefix a [35] = false := by rw [hpre]; exact beq_eq_false_iff_ne.2 (fun e => h35 e.symm)
            have SP := Aside0.mk (step_put st a (i + 1) HF1.out hp2 HTRN.out)
            have hw : IntKind.i64.wrap ((i : Int) + 1) = (i : Int) + 1 := IntWalk.i64_in _ (by omega)
            clear h35 hb0 hpre hp2
            go_wp2_with fail
            refine (put_walk w4 w1.heap.size (fun k_ => k_ ≠ g) st.line ((i : Int) + 1) (.slice Al st.fs.length cl) st.fs a t HT.out 4294967280 (Nat.le_refl _) HR4.out.l (fun k hk e => by subst e; have := blk_lt HR4.out.blk; omega) HR4.out.below.size HNE.out (by have := HAL.out; omega) (by have := HBI.out.fs; have := HLE.out; have := HILT.out; omega) (HBI.out.f.mono (by have := HMS.out; have := HS.out; have := HTK.out; have := HLE2.out; omega))).mono ?_
            rintro e w6 ⟨v6, rfl, hR6, hg6, hat6⟩
            obtain ⟨A6, c6, e6⟩ := Kd.R_slice hR6
            subst e6
            obtain ⟨ln, fs6, er, hp⟩ : ∃ ln fs6 er, putC st.line st.fs a ((i : Int) + 1) = (ln, fs6, er) := ⟨_, _, _, rfl⟩
            have hpb := fun h => putC_bnd (line := st.line) (n := (i : Int) + 1) (fs := st.fs) (a := a) (B := massA (L.take i)) h HBI.out.f
            have hsp := SP.out
            rw [show ((i + 1 : Nat) : Int) = (i : Int) + 1 from rfl] at hsp
            rw [hp] at hR6 hpb hsp hat6
            simp only at hR6 hpb hsp hat6
            have HSP := Aside0.mk hsp
            have HPB := Aside0.mk hpb
            have HR6 := Aside0.mk hR6
            have HG6 := Aside0.mk hg6
            have HAT6 := Aside0.mk hat6
            simp only [hp]
            have z1 := (blk_cell (blk_grown HR4.out.blk hg6 (Kd.R_away HR4.out.l (fun k hk => hk))) 1).trans (show _ = some (Value.slice Al st.fs.length cl) from rfl)
            clear hsp hpb hR6 hg6 hat6 hp b0 b1 f0 f1
            by_cases he : er = 0
            · subst he
              obtain ⟨k1, k2, k3⟩ := HPB.out rfl
              have HX := Aside0.mk (STEP.out _ HSP.out)
              go_wp2_with (first | ((with_reducible refine gate_dst (N := 10) rfl ?_); refine box_event ?hg1 (N := 10) ?hd1 (cs := #[.int .i64 0, .slice none 0 0]) (t := 41) ?hr1 ?_; (case hd1 => rfl); (case hg1 => rfl); (case hr1 => first | (go_simp; done) | (go_simp; rfl)); intro g10 hg10 w7 hbox hb; have BK := Aside0.mk hbox; have HB7 := Aside0.mk hb; have G10 := Aside0.mk hg10; have hbg := (hb.block g (Nat.lt_of_lt_of_le (blk_lt HR4.out.blk) HG6.out.size)).trans (blk_grown HR4.out.blk HG6.out (Kd.R_away HR4.out.l (fun k hk => hk))); have ng : ¬ (g = g10) := (fun e => by have := blk_lt HR4.out.blk; have := HG6.out.size; omega); have ng' : ¬ (g10 = g) := (fun e => ng e.symm); have e0 := blk_frozen hbox 0; have e1 := blk_frozen hbox 1; have d0 := (blk_cell hbox 0).trans (show _ = some (Value.int .i64 0) from rfl); have d1 := (blk_cell hbox 1).trans (show _ = some (Value.slice none 0 0) from rfl); have f0 := blk_frozen hbg 0; have f1 := blk_frozen hbg 1; have b0 := (blk_cell hbg 0).trans (show _ = some (Value.int .i64 st.line) from rfl); have b1 := (blk_cell hbg 1).trans (show _ = some (Value.slice Al st.fs.length cl) from rfl); clear hbox hb hg10 hbg))
              have hB8 : Below w6.heap.size w6 ((w7.setCell ⟨g10, 0, none⟩ (.int .i64 ln)).setCell ⟨g10, 1, none⟩ (.slice A6 fs6.length c6)) := (HB7.out.setCell (p := ⟨g10, 0, none⟩) (by have := G10.out; show _ ≤ g10; omega) _).setCell (p := ⟨g10, 1, none⟩) (by have := G10.out; show _ ≤ g10; omega) _
              have HRN := Aside0.mk (RcV.put (n := ln) HR4.out (Kd.R_below HR6.out hB8) (HG6.out.trans (grown_of_below hB8 _)) HAT6.out)
              go_roundw
              case rel => exact ⟨i + 1, _, _, by go_num, by have := HILT.out; omega, HX, ⟨HRN.out⟩, ⟨⟨by have := HBI.out.out; show st.out.length ≤ _; omega, by have := HBI.out.fs; show fs6.length ≤ _; omega, k1.mono (by rw [HTK.out]; omega), fun e => absurd e k3⟩⟩⟩
              case measure => simp [RowKit.intOf]; have := HILT.out; omega
            · have HX := Aside0.mk (FAIL.out _ er HSP.out he)
              have c3 : (er != 0) = true := bne_iff_ne.2 he
              have c3' : (er == 0) = false := beq_eq_false_iff_ne.2 he
              clear he
              go_wp2_with (first | ((with_reducible refine gate_dst (N := 10) rfl ?_); refine box_event ?hg1 (N := 10) ?hd1 (cs := #[.int .i64 0, .slice none 0 0]) (t := 41) ?hr1 ?_; (case hd1 => rfl); (case hg1 => rfl); (case hr1 => first | (go_simp; done) | (go_simp; rfl)); intro g10 hg10 w7 hbox hb; have HB7 := Aside0.mk hb; have G10 := Aside0.mk hg10; have e0 := blk_frozen hbox 0; have e1 := blk_frozen hbox 1; have d0 := (blk_cell hbox 0).trans (show _ = some (Value.int .i64 0) from rfl); have d1 := (blk_cell hbox 1).trans (show _ = some (Value.slice none 0 0) from rfl); clear hbox hb hg10))
              have hB8 : Below w6.heap.size w6 ((w7.setCell ⟨g10, 0, none⟩ (.int .i64 ln)).setCell ⟨g10, 1, none⟩ (.slice A6 fs6.length c6)) := (HB7.out.setCell (p := ⟨g10, 0, none⟩) (by have := G10.out; show _ ≤ g10; omega) _).setCell (p := ⟨g10, 1, none⟩) (by have := G10.out; show _ ≤ g10; omega) _
              have hb6 := pw_below_grown HR4.out.below _ HR4.out.below.size HG6.out (Kd.R_base HR4.out.l)
              have HBX := Aside0.mk (HB1.out.trans ((hb6.trans (hB8.mono hb6.size)).mono HB1.out.size))
              clear hB8 hb6
              go_ret3
              exact PostC.of (v := .slice none 0 0) HX.out (Kd.S_nil _ _ _ _ _) HBX.out
    · obtain rfl : i = L.length := by omega
      have hd := HD.out
      rw [List.drop_length] at hd
      have c0b : decide ((L.length : Int) < (L.length : Int)) = false := decide_eq_false (by omega)
      have c0c : decide (L.length < L.length) = false := decide_eq_false (by omega)
      by_cases hfs : st.fs = []
      · have e1 : restC st L.length [] = (st.out, 0, 0) := by unfold restC gapC; rw [if_pos hfs]
        have HX := Aside0.mk (hd.symm.trans e1)
        have hz : decide (0 < (st.fs.length : Int)) = false := by rw [hfs]; rfl
        have hz' : decide (0 < st.fs.length) = false := by rw [hfs]; rfl
        clear hfs e1 hd
        go_wp2_with fail
        go_ret3
        exact PostC.of (v := .slice Ao st.out.length co) HX.out (Kd.S_mono (Kd.S_lower HRC.out.s HB1.out.size) (fun _ _ => trivial)) HBW.out
      · have e1 : restC st L.length [] = (st.out ++ [⟨st.line, st.fs⟩], 0, 0) := by unfold restC gapC; rw [if_neg hfs]
        have HX := Aside0.mk (hd.symm.trans e1)
        have hp := List.length_pos_iff.2 hfs
        have hz : decide (0 < (st.fs.length : Int)) = true := decide_eq_true (by omega)
        have hz' : decide (0 < st.fs.length) = true := decide_eq_true hp
        have hol : st.out.length ≤ 2147483641 := by have := HBI.out.out; have := HLE.out; omega
        clear hfs e1 hd hp
        go_wp2_with (first | (at_builtin; refine Kd.S_append k41 (w0 := w1) w1.heap.size rfl (.tmp 64) (.tmp 66) 23 41 (.agg #[.int .i64 0, .slice none 0 0]) 32 rfl Tryd.underlying23 info41 rfl (by decide) (by decide) (.slice Ao st.out.length co) st.out (⟨st.line, st.fs⟩ : S41) [.int .i64 st.line, .slice Al st.fs.length cl] (fun k_ => k_ ≠ g) (fun k_ => some k_ = (Value.slice Al st.fs.length cl).ownBlock) ?hs ?hx ?aP ?aK ?aF ?aO ?aB ?aS ?aL ?_; (case hs => first | rfl | simp [Act.eval, Act.put]); (case hx => first | rfl | simp [Act.eval, Act.put]); (case aP => exact k41_mkM _ _ _ (⟨st.line, st.fs⟩ : S41) (Kd.R_tight rfl HRC.out.l)); (case aK => exact (fun k hk => ⟨HRC.out.l.1 k hk.symm, fun e => ((Kd.S_R HRC.out.s).1 k e.symm).2 hk⟩)); (case aF => exact (fun k hk e => by subst e; have := blk_lt HRC.out.blk; omega)); (case aO => exact Kd.S_mono HRC.out.s (fun k hk => ⟨hk.1, fun e => hk.2 e⟩)); (case aB => exact HRC.out.below); (case aS => exact HRC.out.below.size); (case aL => omega); intro v1 w5 ho hb hg hat; obtain ⟨Ao, co, eo⟩ := Kd.R_slice (Kd.S_R ho); subst eo; have HSS := Aside0.mk (Kd.S_mono (ok' := fun _ => True) (Kd.S_lower ho HB1.out.size) (fun _ _ => trivial)); have HB := Aside0.mk (HB1.out.trans (hb.mono HB1.out.size)); clear ho hb hg hat))
        go_ret3
        have hS := HSS.out
        rw [show (st.out ++ [(⟨st.line, st.fs⟩ : S41)]).length = st.out.length + 1 by simp] at hS
        exact PostC.of HX.out hS HB.out
/-- What the reference's Read comes to. -/
def depotref21_Read.f (a0 : ByteArray) : Option (List S41 × Int × Int) := if a0.size ≤ 2147483640 then some (readC a0) else none
theorem depotref21_Read.calls (a0 : ByteArray) (r1 : List S41) (r2 r3 : Int) (w : World) (h : depotref21_Read.f a0 = some (r1, r2, r3)) :
    Calls Tryd.prog 13 #[.string a0] w fun e w' => ∃ v0_ : Value, e = .returned (.tuple #[v0_, .int .i64 r2, .int .i64 r3]) ∧ Kd.S k41 41 w' w.heap.size (fun _ => True) v0_ r1 ∧ Below w.heap.size w w' := by
  unfold depotref21_Read.f at h
  by_cases hs : a0.size ≤ 2147483640
  · rw [if_pos hs] at h
    have hr := refread_walk a0 w hs
    unfold PostC at hr
    rw [Option.some.inj h] at hr
    exact hr
  · rw [if_neg hs] at h
    cases h
end Go.Proofs.YtbaiglikmneicaaDoor.P
end
