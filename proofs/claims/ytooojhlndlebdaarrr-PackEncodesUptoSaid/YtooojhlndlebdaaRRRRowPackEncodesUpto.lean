/- The statement PackEncodesUptoSaid: for every list of steps (of bulk at most 1048576) the law PackEncodes answers true and leaves its argument as it was. -/
import Derived.Test.YtooojhlndlebdaaRRRRows
import Derived.Test.YtooojhlndlebdaaRRRArgs
import Derived.Test.YtooojhlndlebdaaRRRPureEncode
import Derived.WalkKit
import Derived.ProofKit
import Derived.OpenShut
import Derived.ShutString
import Derived.ChangeOld
import Derived.Below
import Derived.SizedLaws
import Derived.JoinedCond
import Derived.Carry
set_option linter.unusedVariables false
namespace Go.Proofs.YtooojhlndlebdaaRRR.packEncodesUpto
open Go.ChangeShapes Go.WideShapes Go.ChangeAt Go.RowKit
open Go.ChangeMaps (open_string shut_string)
open Go.Proofs.YtooojhlndlebdaaRRR.P Go.Proofs.YtooojhlndlebdaaRRRW.PrintWords

theorem own : ownKnob Try.prog.godebug = none := by kernel_rfl
theorem laidOut : laidOutB Try.prog = true := by kernel_rfl
theorem opensStep : Args.Opens 50 k50 (fun s => s.f1.length + 1) (fun _ => True) := Args.opens_weaken (Args.opens_struct (g := fun x => ⟨x.1, x.2⟩) Try.underlying50 (by kernel_rfl) (Args.opensL_cons (Args.opens_bool (by kernel_rfl) (by kernel_rfl)) rfl (Args.opensL_one (Args.opens_slice (e := 3) (by kernel_rfl) (by kernel_rfl) (Args.opens_int (k := .i64) (by kernel_rfl) (by kernel_rfl))) rfl) (by simp [Kd.bool, Kd.scalar])) _ (fun _ => rfl)) (fun s => by have := Args.massL_len (m := fun _ : Int => 1) (fun _ => Nat.le_refl 1) s.f1; show s.f1.length + 1 ≤ 1 + (Args.massL (fun _ : Int => 1) s.f1 + 1) + 1; omega) (fun _ _ => trivial)

/-- What the call gives for every argument. -/
theorem contract (H : Type) (enc : TypeId × Value → H) (W : World) (base : Nat) (args : Array Value) (ds gs : List (DataW H)) (before : List MemPlace)
    (hval0 : ∀ (j : Nat) t v, Try.f7.params[j]? = some t → args[j]? = some v → Value.okWide Try.prog W .any base t v)
    (hW : DataW.Whole enc Try.prog Try.f7.params.toList Rows.packEncodesSpec.vars false W args.toList ds gs before) (hk : Rows.uptoSmall H (ds ++ gs) = true) :
    Calls Try.prog 7 args W fun e W' => ∃ v, e = .returned v ∧ Rows.packEncodesSpec.post enc Try.prog Try.f7 false true false false W args v W' := by
  have hval : ∀ (j : Nat) t v, Try.f7.params[j]? = some t → args[j]? = some v → Value.okWide Try.prog W .any base t v := hval0
  have hb := Args.bulk_bound hk
  have hW' := hW
  obtain ⟨p, q, hA0, hV, rfl, hfz, hnd⟩ := hW
  have hA : DataW.TrodAll enc Try.prog W 0 (fun _ => true) true Try.f7.params.toList args.toList ds p := hA0
  rw [Try.params7] at hA hval
  obtain ⟨v0, vs0, d0, ds0, p0, q0, hargs, rfl, rfl, h0, r0⟩ := trodAll_cons hA
  obtain ⟨rfl, rfl, rfl⟩ := trodAll_nil r0
  obtain rfl : args = #[v0] := by cases args; simp_all
  obtain ⟨rfl, rfl⟩ := trodVars_none hV
  have hb0 : Rows.uptoBulk d0 ≤ 1048576 := by simpa [Rows.uptoBulkAll] using hb
  have k0 := h0
  have lt0 : ∀ x ∈ p0, x.block < W.heap.size := by obtain ⟨m, hm⟩ := k0; exact DataW.trod_lt m _ _ _ hm
  obtain ⟨A0, c0, l0, rfl, hc0, hr0, hm0, ok0⟩ := Args.open_slice (Args.opens_slice (by kernel_rfl) (by kernel_rfl) opensStep) Try.underlying42 (hval 0 42 v0 rfl rfl) h0
  clear hA0 hval0
  have key : Calls Try.prog 7 #[.slice A0 l0.length c0] W fun e w' => e = .returned (.bool true) ∧ Below W.heap.size W w' := by
    have hl : l0.length ≤ 1048576 := by
      have := Args.massL_len (m := fun s : S50 => s.f1.length + 1) (fun _ => Nat.le_add_left _ _) l0
      omega
    have hs : ∀ s ∈ l0, s.f1.length ≤ 1048576 := fun s hs => by
      have := Args.massL_mem (m := fun s : S50 => s.f1.length + 1) hs
      omega
    obtain ⟨k, hk'⟩ := packEncodes_pure l0 hs hl
    exact depotlaw10_PackEncodes.calls k A0 c0 l0 true W hr0 hc0 hk'
  refine key.mono fun e W' ⟨he, bel⟩ => ?_
  subst he
  exact ⟨_, rfl, _, _, _, [], _, [], hW', trodAll_mk1 (shut_bool Try.underlying4 _), (trodAll_cons_mk (Below.trod laidOut (by kernel_rfl) (of_decide_eq_true (by kernel_rfl)) k0 bel lt0) trodAll_mk0), rfl, bel.frame _, fun h => by cases h⟩

set_option maxRecDepth 100000 in
theorem lifted (os : Os) (started : os.Started) (H : Type) (enc : TypeId × Value → H) (F : Stop.Interp) :
    ReturnsInHanded {} Try.checked os 7 .any ((Rows.OpenSpec.upto Rows.packEncodesSpec).pre6 enc Try.prog Try.f7 Rows.packEncodesUptoRow.domain false) (((Rows.OpenSpec.upto Rows.packEncodesSpec).at F).post enc Try.prog Try.f7 false true false false) := by
  refine returnsInHanded_of_cond (C := Try.checked) (s := Rows.OpenSpec.upto Rows.packEncodesSpec) (k := Rows.uptoSmall) rfl own started (by kernel_rfl) Try.func7
    (OpenSpec.witness (enc := enc) (C := Try.checked) (s := Rows.OpenSpec.upto Rows.packEncodesSpec) (k := Rows.uptoSmall) rfl false ⟨#[], #[.slice none 0 0], []⟩ 8 (by kernel_rfl) (by kernel_rfl) (by kernel_rfl)
      (x := ([.nil], [], [])) (by kernel_rfl) rfl (by kernel_rfl)) ?_
  intro W base args ds gs before hval hW _ hk _
  exact contract H enc W base args ds gs before hval hW hk

theorem over : Rows.packEncodesUptoRow.holds Try.pinned (Rows.OpenSpec.upto Rows.packEncodesSpec) :=
  OpenClaim.holds_of_cond 7 Try.f7 rfl rfl rfl rfl rfl rfl rfl ⟨rfl, rfl, rfl, rfl, rfl⟩ rfl rfl rfl rfl rfl (by kernel_rfl) Try.func7 (by kernel_rfl)
    (of_decide_eq_true (by kernel_rfl)) (by unfold Func.isWrapper; first | (rw [if_pos (by decide +kernel)]; kernel_rfl) | (rw [if_neg (by decide +kernel)]; exact ⟨rfl, rfl⟩))
    (fun os started H enc _ F => lifted os started H enc F)
end Go.Proofs.YtooojhlndlebdaaRRR.packEncodesUpto
namespace Go.Proofs.YtooojhlndlebdaaRRR
/-- The statement. -/
theorem packEncodesUpto_holds : Rows.PackEncodesUptoSaid := packEncodesUpto.over
#print axioms packEncodesUpto_holds
end Go.Proofs.YtooojhlndlebdaaRRR
