/- DratNumbers: the law's call. No conditions. -/
import Derived.Test.YtooojhlndlebdaaRRRDoorRRRRGivesQ
import Derived.KernelRfl
set_option linter.unusedVariables false
set_option linter.unusedSimpArgs false
namespace Go.Proofs.YtooojhlndlebdaaRRRDoorRRRR.R
open Go.RowKit Go.Lib Go.Proofs.YtooojhlndlebdaaRRRDoorRRRRW.PrintWords Go.Proofs.YtooojhlndlebdaaRRRDoorRRRRW.PrintLast Go.Proofs.YtooojhlndlebdaaRRRDoorRRRRW.PrintMore
attribute [local go_sem] Oper.semAt_some

theorem steps_calls (s : ByteArray) (w : World) : Calls Tryd.prog 21 #[.string s] w fun e w' => e = .returned (.func (.func 33) #[] #[.pointer (some ⟨w.heap.size, 0, none⟩)]) ∧ w' = w.alloc (.cells #[.string s] 9 (0, 0)) := by
  go_enter Tryd.func21, Tryd.ntmps21
  go_wp2_with fail
  go_ret
  exact ⟨rfl, rfl⟩
/-- The text '1 0'. -/
def oneS : ByteArray := ⟨#[49, 32, 48]⟩
def oneL : List S33 := [⟨false, [1]⟩]
theorem one_is : (readF oneS).1.steps = oneL := by kernel_rfl
theorem C_one {w : World} {G G2 : Nat} (h1 : w.heap[G]? = some (.cells #[.int .i64 1] 3 (0, 0))) (h2 : w.heap[G2]? = some (.cells #[.bool false, .slice (some ⟨G, 0, none⟩) 1 1] 33 (0, 0))) : Kd.C k33 w (some ⟨G2, 0, none⟩) oneL.length oneL := by
  refine ⟨rfl, by decide, fun _ => ⟨_, rfl, fun j p hj => ?_⟩⟩
  cases j with
  | succ j => cases hj
  | zero =>
    obtain rfl := Option.some.inj hj
    refine ⟨[.bool false, .slice (some ⟨G, 0, none⟩) 1 1], rfl, k33_mk w ⟨false, [1]⟩ (A1 := some ⟨G, 0, none⟩) (c1 := 1) (Nat.le_refl _) ⟨rfl, by decide, fun _ => ⟨_, rfl, fun j p hj => ?_⟩⟩, fun i u hu => ?_⟩
    · cases j with
      | succ j => cases hj
      | zero =>
        obtain rfl := Option.some.inj hj
        refine ⟨[.int .i64 1], rfl, rfl, fun i u hu => ?_⟩
        cases i with
        | succ i => cases hu
        | zero => exact (blk_cell h1 0).trans hu
    · cases i with
      | zero => exact (blk_cell h2 0).trans hu
      | succ i =>
        cases i with
        | zero => exact (blk_cell h2 1).trans hu
        | succ i => cases hu
/-- gives over '1 0'. -/
theorem gives_one (G G2 g : Nat) (w : World) (hE : Env w) (hg : w.heap[g]? = some (.cells #[.string oneS] 9 (0, 0))) (h1 : w.heap[G]? = some (.cells #[.int .i64 1] 3 (0, 0))) (h2 : w.heap[G2]? = some (.cells #[.bool false, .slice (some ⟨G, 0, none⟩) 1 1] 33 (0, 0))) :
    Calls Tryd.prog 20 #[.func (.func 33) #[] #[.pointer (some ⟨g, 0, none⟩)], .slice (some ⟨G2, 0, none⟩) 1 1] w fun e w' => e = .returned (.bool true) ∧ Below w.heap.size w w' := by
  have h := gives_true oneS (by decide) (some ⟨G2, 0, none⟩) 1 g w hE hg
  rw [one_is] at h
  exact h (C_one h1 h2) (Nat.le_refl _) (fun x hx => by simp [oneL] at hx; subst hx; decide) (by decide)
set_option maxHeartbeats 4000000 in
set_option maxRecDepth 100000 in
theorem numbers_calls (w : World) (hE : Env w) : Calls Tryd.prog 6 #[] w fun e w' => e = .returned (.bool true) ∧ Below w.heap.size w w' := by
  have HE := Aside0.mk hE
  clear hE
  go_enter Tryd.func6, Tryd.ntmps6
  go_wp2_with fail
  refine (steps_calls oneS w).mono ?_
  rintro e w1 ⟨rfl, rfl⟩
  go_wp2_with fail
  obtain ⟨w3, hw3⟩ : ∃ w3, ((w.alloc (.cells #[.string oneS] 9)).alloc (.cells #[.int .i64 1] 3)).alloc (.cells #[.bool false, .slice (some ⟨w.heap.size + 1, 0, none⟩) 1 1] 33) = w3 := ⟨_, rfl⟩
  have hb : Below w.heap.size w w3 := by rw [← hw3]; exact (((Below.refl _ w).alloc (Nat.le_refl _) _).alloc (by simp) _).alloc (by simp; omega) _
  have e0 : w3.heap[w.heap.size]? = some (.cells #[.string oneS] 9 (0, 0)) := by rw [← hw3]; exact blk_alloc (blk_alloc (blk_new w _) _) _
  have e1 : w3.heap[w.heap.size + 1]? = some (.cells #[.int .i64 1] 3 (0, 0)) := by
    rw [← hw3]
    have := blk_new (w.alloc (.cells #[.string oneS] 9)) (.cells #[.int .i64 1] 3)
    rw [World.size_alloc] at this
    exact blk_alloc this _
  have e2 : w3.heap[w.heap.size + 1 + 1]? = some (.cells #[.bool false, .slice (some ⟨w.heap.size + 1, 0, none⟩) 1 1] 33 (0, 0)) := by
    rw [← hw3]
    have := blk_new ((w.alloc (.cells #[.string oneS] 9)).alloc (.cells #[.int .i64 1] 3)) (.cells #[.bool false, .slice (some ⟨w.heap.size + 1, 0, none⟩) 1 1] 33)
    rw [World.size_alloc, World.size_alloc] at this
    exact this
  rw [hw3]
  refine (gives_one (w.heap.size + 1) (w.heap.size + 1 + 1) w.heap.size w3 (HE.out.below hb) e0 e1 e2).mono ?_
  rintro e w4 ⟨rfl, hb4⟩
  have HB := Aside0.mk (hb.trans (hb4.mono hb.size))
  clear hb hb4 e0 e1 e2 hw3
  go_wp2_with fail
  go_ret
  exact ⟨rfl, HB.out⟩
end Go.Proofs.YtooojhlndlebdaaRRRDoorRRRR.R
