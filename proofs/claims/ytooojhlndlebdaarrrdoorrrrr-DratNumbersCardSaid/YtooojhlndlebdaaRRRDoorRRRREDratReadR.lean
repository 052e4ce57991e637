/- drat.Read: what it comes to, for every text of at most 4294967280 bytes. No conditions. -/
import Derived.Test.YtooojhlndlebdaaRRRDoorRRRRReadX
set_option linter.unusedVariables false
set_option linter.unusedSimpArgs false
namespace Go.Proofs.YtooojhlndlebdaaRRRDoorRRRR.R
open Go.RowKit Go.Lib Go.Proofs.YtooojhlndlebdaaRRRDoorRRRRW.PrintWords Go.Proofs.YtooojhlndlebdaaRRRDoorRRRRW.PrintLast Go.Proofs.YtooojhlndlebdaaRRRDoorRRRRW.PrintMore

/-- A new reader. -/
theorem rd_new (w : World) : RdE w w.heap.size st0 (w.alloc (.cells #[.slice none 0 0, .bool false, .bool false, .slice none 0 0] 60)) :=
  ⟨_, _, _, heap_alloc_new w _, Kd.S_nil _ _ _ _ _, Kd.R_nil _ _ _ _ _, (Below.refl _ w).alloc (Nat.le_refl _) _, Nat.le_refl _, K9.refl _⟩
/-- What drat.Read comes to. -/
def drat_Read.f (s : ByteArray) : Option (List S33 × Int × Int) := if s.size ≤ 4294967280 then (if (readF s).2 = 0 then some ((readF s).1.steps, 0, 0) else some ([], 90, ((readF s).2 : Nat))) else none
set_option maxHeartbeats 8000000 in
set_option maxRecDepth 100000 in
theorem drat_Read.calls (a0 : ByteArray) (r1 : List S33) (r2 r3 : Int) (w : World) (hE : Env w) (h : drat_Read.f a0 = some (r1, r2, r3)) :
    Calls Tryd.prog 14 #[.string a0] w fun e w' => ∃ v0_ : Value, e = .returned (.tuple #[v0_, .int .i64 r2, .int .i64 r3]) ∧ Kd.S k33 33 w' w.heap.size (fun _ => True) v0_ r1 ∧ Below w.heap.size w w' := by
  unfold drat_Read.f at h
  by_cases hs : a0.size ≤ 4294967280
  · rw [if_pos hs] at h
    have HE := Aside0.mk hE
    have HW := Aside0.mk (read_walk w w.heap.size a0 _ (rd_new w) hE hs)
    clear hE
    by_cases h0 : (readF a0).2 = 0
    · rw [if_pos h0] at h
      obtain ⟨rfl, rfl, rfl⟩ : (readF a0).1.steps = r1 ∧ (0 : Int) = r2 ∧ (0 : Int) = r3 := by
        have := Option.some.inj h
        exact ⟨congrArg (·.1) this, congrArg (·.2.1) this, congrArg (·.2.2) this⟩
      have HH := Aside0.mk h0
      clear h h0
      go_enter Tryd.func14, Tryd.ntmps14
      go_wp2_with fail
      refine HW.out.mono ?_
      rintro e w1 ⟨rfl, hR⟩
      rw [HH.out]
      obtain ⟨ws, vs, vl, hV⟩ := hR
      have b0 : w1.cell? ⟨w.heap.size, 0, none⟩ = some vs := (blk_cell hV.blk 0).trans rfl
      obtain ⟨Ao, co, eo⟩ := Kd.R_slice (Kd.S_R hV.s)
      subst eo
      have HV := Aside0.mk hV
      clear hV
      go_wp2_with fail
      go_ret3
      exact ⟨_, rfl, Kd.S_mono HV.out.s (fun _ _ => trivial), HV.out.below⟩
    · rw [if_neg h0] at h
      obtain ⟨rfl, rfl, rfl⟩ : ([] : List S33) = r1 ∧ (90 : Int) = r2 ∧ (((readF a0).2 : Nat) : Int) = r3 := by
        have := Option.some.inj h
        exact ⟨congrArg (·.1) this, congrArg (·.2.1) this, congrArg (·.2.2) this⟩
      obtain ⟨m, hm⟩ : ∃ m, (readF a0).2 = m + 1 := ⟨(readF a0).2 - 1, by omega⟩
      have HM := Aside0.mk hm
      have hpos : (0 : Int) < ((readF a0).2 : Nat) := by omega
      have d1 : decide ((0 : Int) < (((readF a0).2 : Nat) : Int)) = true := decide_eq_true hpos
      have d2 : decide (0 < (readF a0).2) = true := decide_eq_true (by omega)
      clear h h0 hm
      go_enter Tryd.func14, Tryd.ntmps14
      go_wp2_with fail
      refine HW.out.mono ?_
      rintro e w1 ⟨rfl, hR⟩
      have HR := Aside0.mk hR
      clear hR
      go_wp2_with fail
      go_ret3
      obtain ⟨ws, vs, vl, hV⟩ := HR.out
      exact ⟨_, rfl, Kd.S_nil _ _ _ _ _, hV.below⟩
  · rw [if_neg hs] at h
    cases h
end Go.Proofs.YtooojhlndlebdaaRRRDoorRRRR.R
