/- The statement EncodeDecodesSaid: for every table and all truths the law EncodeDecodes answers true and leaves its arguments as they were. It has no conditions. -/
import Derived.Test.YtooojhlndlebdaaRRRRows
import Derived.Test.YtooojhlndlebdaaRRRArgs
import Derived.Test.YtooojhlndlebdaaRRRPureDecode
import Derived.WalkKit
import Derived.ProofKit
import Derived.OpenShut
import Derived.ShutString
import Derived.ChangeOld
import Derived.Below
import Derived.SizedLaws
import Derived.JoinedCond
import Derived.Carry
set_option linter.unusedVariables false
namespace Go.Proofs.YtooojhlndlebdaaRRR.encodeDecodesSaid
open Go.ChangeShapes Go.WideShapes Go.ChangeAt Go.RowKit
open Go.ChangeMaps (open_string shut_string)
open Go.Proofs.YtooojhlndlebdaaRRR.P Go.Proofs.YtooojhlndlebdaaRRRW.PrintWords

theorem own : ownKnob Try.prog.godebug = none := by kernel_rfl
theorem laidOut : laidOutB Try.prog = true := by kernel_rfl
theorem opensFault : Args.Opens 73 k73 (fun _ => 1) (fun _ => True) := Args.opens_weaken (Args.opens_struct (g := fun x => ⟨x.1, x.2.1, x.2.2.1, x.2.2.2⟩) Try.underlying73 (by kernel_rfl) (Args.opensL_cons (Args.opens_int (k := .i64) (by kernel_rfl) (by kernel_rfl)) rfl (Args.opensL_cons (Args.opens_int (k := .i64) (by kernel_rfl) (by kernel_rfl)) rfl (Args.opensL_cons (Args.opens_int (k := .i64) (by kernel_rfl) (by kernel_rfl)) rfl (Args.opensL_one (Args.opens_int (k := .i64) (by kernel_rfl) (by kernel_rfl)) rfl) (by simp [Kd.int, Kd.scalar])) (by simp [Kd.int, Kd.scalar])) (by simp [Kd.int, Kd.scalar])) _ (fun _ => rfl)) (fun _ => by omega) (fun _ _ => trivial)
theorem opensTable : Args.Opens 25 (Kd.iso (Kd.pair (Kd.int .i64) (Kd.pair (Kd.int .i64) (Kd.slice 73 k73))) (fun x : Int × Int × List S73 => x)) (fun _ => 1) (fun _ => True) := Args.opens_weaken (Args.opens_struct (g := fun x => x) Try.underlying25 (by kernel_rfl) (Args.opensL_cons (Args.opens_int (k := .i64) (by kernel_rfl) (by kernel_rfl)) rfl (Args.opensL_cons (Args.opens_int (k := .i64) (by kernel_rfl) (by kernel_rfl)) rfl (Args.opensL_one (Args.opens_slice (by kernel_rfl) (by kernel_rfl) opensFault) rfl) (by simp [Kd.int, Kd.scalar])) (by simp [Kd.int, Kd.scalar])) _ (fun _ => rfl)) (fun _ => by omega) (fun _ _ => trivial)

/-- What the call gives for every argument. -/
theorem contract (H : Type) (enc : TypeId × Value → H) (W : World) (base : Nat) (args : Array Value) (ds gs : List (DataW H)) (before : List MemPlace)
    (hval0 : ∀ (j : Nat) t v, Try.f4.params[j]? = some t → args[j]? = some v → Value.okWide Try.prog W .any base t v)
    (hW : DataW.Whole enc Try.prog Try.f4.params.toList Rows.encodeDecodesSpec.vars false W args.toList ds gs before) (hsz0 : (DataW.weightsEach Try.prog (Try.f4.params.toList ++ Rows.encodeDecodesSpec.plain.varTypes Try.prog) (ds ++ gs)).all (· ≤ reachBytes) = true) :
    Calls Try.prog 4 args W fun e W' => ∃ v, e = .returned v ∧ Rows.encodeDecodesSpec.post enc Try.prog Try.f4 false true false false W args v W' := by
  have hval : ∀ (j : Nat) t v, Try.f4.params[j]? = some t → args[j]? = some v → Value.okWide Try.prog W .any base t v := hval0
  have hsz := hsz0
  have hW' := hW
  obtain ⟨p, q, hA0, hV, rfl, hfz, hnd⟩ := hW
  have hA : DataW.TrodAll enc Try.prog W 0 (fun _ => true) true Try.f4.params.toList args.toList ds p := hA0
  rw [Try.params4] at hA hval hsz
  obtain ⟨v0, vs0, d0, ds0, p0, q0, hargs, rfl, rfl, h0, r0⟩ := trodAll_cons hA
  obtain ⟨v1, vs1, d1, ds1, p1, q1, rfl, rfl, rfl, h1, r1⟩ := trodAll_cons r0
  obtain ⟨rfl, rfl, rfl⟩ := trodAll_nil r1
  obtain rfl : args = #[v0, v1] := by cases args; simp_all
  obtain ⟨rfl, rfl⟩ := trodVars_none hV
  have k0 := h0
  have lt0 : ∀ x ∈ p0, x.block < W.heap.size := by obtain ⟨m, hm⟩ := k0; exact DataW.trod_lt m _ _ _ hm
  obtain ⟨a0, cs0, rfl, hK0, hm0, ok0⟩ := Args.open_struct (opensTable) Try.underlying25 (hval 0 25 v0 rfl rfl) h0
  obtain ⟨c00, c01, hcs0, hq0, c02, c03, hcs1, hq1, A0_2, c0_2, hcs2, hc0_2, hr0_2⟩ := hK0
  obtain rfl : cs0 = [.int .i64 a0.1, .int .i64 a0.2.1, .slice A0_2 a0.2.2.length c0_2] := by
    rw [hcs0, hcs1, hcs2, show c00 = [.int .i64 a0.1] from hq0, show c02 = [.int .i64 a0.2.1] from hq1]
    rfl
  have k1 := h1
  have lt1 : ∀ x ∈ p1, x.block < W.heap.size := by obtain ⟨m, hm⟩ := k1; exact DataW.trod_lt m _ _ _ hm
  obtain ⟨A1, c1, l1, rfl, hc1, hr1, hm1, ok1⟩ := Args.open_slice (Args.opens_slice (by kernel_rfl) (by kernel_rfl) (Args.opens_bool (T := 4) (by kernel_rfl) (by kernel_rfl))) Try.underlying26 (hval 1 26 v1 rfl rfl) h1
  have sz1 := Args.sized_any hsz (j := 1) (t := 26) rfl rfl Try.underlying26 (B := 1) (by kernel_rfl) k1
  clear hA0 hval0
  have key : Calls Try.prog 4 #[.agg #[.int .i64 a0.1, .int .i64 a0.2.1, .slice A0_2 a0.2.2.length c0_2], .slice A1 l1.length c1] W fun e w' => e = .returned (.bool true) ∧ Below W.heap.size W w' := by
    obtain ⟨k, hk'⟩ := encodeDecodes_pure a0.1 a0.2.1 a0.2.2 l1 (by omega)
    exact depotlaw28_EncodeDecodes.calls k a0.1 a0.2.1 A0_2 c0_2 a0.2.2 A1 c1 l1 true W hr0_2 hc0_2 hr1 hc1 hk'
  refine key.mono fun e W' ⟨he, bel⟩ => ?_
  subst he
  exact ⟨_, rfl, _, _, _, [], _, [], hW', trodAll_mk1 (shut_bool Try.underlying4 _), (trodAll_cons_mk (Below.trod laidOut (by kernel_rfl) (of_decide_eq_true (by kernel_rfl)) k0 bel lt0) (trodAll_cons_mk (Below.trod laidOut (by kernel_rfl) (of_decide_eq_true (by kernel_rfl)) k1 bel lt1) trodAll_mk0)), rfl, bel.frame _, fun h => by cases h⟩

set_option maxRecDepth 100000 in
theorem lifted (os : Os) (started : os.Started) (H : Type) (enc : TypeId × Value → H) :
    ReturnsInHanded {} Try.checked os 4 .any (Rows.encodeDecodesSpec.pre6 enc Try.prog Try.f4 Rows.encodeDecodesRow.domain false) (Rows.encodeDecodesSpec.post enc Try.prog Try.f4 false true false false) := by
  refine returnsInHanded_of_change_sized (C := Try.checked) own started (by kernel_rfl) Try.func4
    (ChangeSpec.witness6 (enc := enc) (C := Try.checked) false ⟨#[], #[.agg #[.int .i64 0, .int .i64 0, .slice none 0 0], .slice none 0 0], []⟩ 8 (by kernel_rfl) (by kernel_rfl) (by kernel_rfl) (by kernel_rfl)) ?_
  intro W base args ds gs before hval hW _ hsz _
  exact contract H enc W base args ds gs before hval hW hsz

theorem over : Rows.encodeDecodesRow.holds Try.pinned (OpenSpec.ofChange Rows.encodeDecodesSpec) :=
  OpenClaim.holds_of_wide 4 Try.f4 rfl rfl rfl rfl rfl rfl rfl ⟨rfl, rfl, rfl, rfl, rfl⟩ rfl rfl rfl rfl rfl (by kernel_rfl) Try.func4 (by kernel_rfl)
    (of_decide_eq_true (by kernel_rfl)) (by unfold Func.isWrapper; first | (rw [if_pos (by decide +kernel)]; kernel_rfl) | (rw [if_neg (by decide +kernel)]; exact ⟨rfl, rfl⟩))
    (fun os started H enc _ => lifted os started H enc)
end Go.Proofs.YtooojhlndlebdaaRRR.encodeDecodesSaid
namespace Go.Proofs.YtooojhlndlebdaaRRR
/-- The statement. -/
theorem encodeDecodes_holds : Rows.EncodeDecodesSaid := encodeDecodesSaid.over
#print axioms encodeDecodes_holds
end Go.Proofs.YtooojhlndlebdaaRRR
