/- The statement ControlGetsUptoSaid: for every stanza and every name (of bulk at most 1048576 together) the law ControlGets answers true and leaves its arguments as they were. -/
import Derived.Test.YtbaiglikmneicaaRows
import Derived.Test.YtbaiglikmneicaaArgs
import Derived.Test.YtbaiglikmneicaaPureGets
import Derived.Test.YtbaiglikmneicaaRGets
import Derived.WalkKit
import Derived.ProofKit
import Derived.OpenShut
import Derived.ShutString
import Derived.ChangeOld
import Derived.Below
import Derived.SizedLaws
import Derived.JoinedCond
import Derived.Carry
set_option linter.unusedVariables false
namespace Go.Proofs.Ytbaiglikmneicaa.controlGetsUpto
open Go.ChangeShapes Go.WideShapes Go.ChangeAt Go.RowKit
open Go.ChangeMaps (open_string shut_string)
open Go.Proofs.Ytbaiglikmneicaa.P Go.Proofs.YtbaiglikmneicaaW.PrintWords

theorem own : ownKnob Try.prog.godebug = none := by kernel_rfl
theorem laidOut : laidOutB Try.prog = true := by kernel_rfl
theorem opensField : Args.Opens 31 k31 (fun f => f.f0.size + f.f1.size + 1) (fun f => f.f0.size ≤ maxLen ∧ f.f1.size ≤ maxLen) := Args.opens_weaken (Args.opens_struct (g := fun x => ⟨x.1, x.2⟩) Try.underlying31 (by kernel_rfl) (Args.opensL_cons (Args.opens_string (by kernel_rfl) (by kernel_rfl)) rfl (Args.opensL_one (Args.opens_string (by kernel_rfl) (by kernel_rfl)) rfl) (by simp [Kd.string, Kd.scalar])) _ (fun _ => rfl)) (fun f => by show f.f0.size + f.f1.size + 1 ≤ (f.f0.size + 1) + (f.f1.size + 1) + 1; omega) (fun f h => h)
theorem opensStanza : Args.Opens 24 k24 (fun s => Args.massL (fun f : S31 => f.f0.size + f.f1.size + 1) s.f1 + 1) (fun s => (Lit.int .i64 s.f0).wf = true) := Args.opens_weaken (Args.opens_struct (g := fun x => ⟨x.1, x.2⟩) Try.underlying24 (by kernel_rfl) (Args.opensL_cons (Args.opens_int (k := .i64) (by kernel_rfl) (by kernel_rfl)) rfl (Args.opensL_one (Args.opens_slice (e := 31) (by kernel_rfl) (by kernel_rfl) opensField) rfl) (by simp [Kd.int, Kd.scalar])) _ (fun _ => rfl)) (fun s => by show Args.massL _ s.f1 + 1 ≤ 1 + (Args.massL _ s.f1 + 1) + 1; omega) (fun s h => h.1)

/-- What the call gives for every argument. -/
theorem contract (H : Type) (enc : TypeId × Value → H) (W : World) (base : Nat) (args : Array Value) (ds gs : List (DataW H)) (before : List MemPlace)
    (hval0 : ∀ (j : Nat) t v, Try.f3.params[j]? = some t → args[j]? = some v → Value.okWide Try.prog W .any base t v)
    (hW : DataW.Whole enc Try.prog Try.f3.params.toList Rows.controlGetsSpec.vars false W args.toList ds gs before) (hk : Rows.uptoSmall H (ds ++ gs) = true) :
    Calls Try.prog 3 args W fun e W' => ∃ v, e = .returned v ∧ Rows.controlGetsSpec.post enc Try.prog Try.f3 false true false false W args v W' := by
  have hval : ∀ (j : Nat) t v, Try.f3.params[j]? = some t → args[j]? = some v → Value.okWide Try.prog W .any base t v := hval0
  have hb := Args.bulk_bound hk
  have hW' := hW
  obtain ⟨p, q, hA0, hV, rfl, hfz, hnd⟩ := hW
  have hA : DataW.TrodAll enc Try.prog W 0 (fun _ => true) true Try.f3.params.toList args.toList ds p := hA0
  rw [Try.params3] at hA hval
  obtain ⟨v0, vs0, d0, ds0, p0, q0, hargs, rfl, rfl, h0, r0⟩ := trodAll_cons hA
  obtain ⟨v1, vs1, d1, ds1, p1, q1, rfl, rfl, rfl, h1, r1⟩ := trodAll_cons r0
  obtain ⟨rfl, rfl, rfl⟩ := trodAll_nil r1
  obtain rfl : args = #[v0, v1] := by cases args; simp_all
  obtain ⟨rfl, rfl⟩ := trodVars_none hV
  simp only [List.append_nil, Rows.uptoBulkAll] at hb
  have k0 := h0
  have lt0 : ∀ x ∈ p0, x.block < W.heap.size := by obtain ⟨m, hm⟩ := k0; exact DataW.trod_lt m _ _ _ hm
  obtain ⟨a0, cs0, rfl, hK0, hm0, ok0⟩ := Args.open_struct (opensStanza) Try.underlying24 (hval 0 24 v0 rfl rfl) h0
  obtain ⟨A0, c0, rfl, hc0, hr0⟩ := k24_open hK0
  obtain ⟨a1, rfl, rfl, rfl, y1⟩ := open_string Try.underlying9 (hval 1 9 v1 rfl rfl) h1
  clear hA0 hval0
  have key : Calls Try.prog 3 #[.agg #[.int .i64 a0.f0, .slice A0 a0.f1.length c0], .string a1] W fun e w' => e = .returned (.bool true) ∧ Below W.heap.size W w' := by
    have hs1 : a1.size ≤ 1048576 := by
      have e : Rows.uptoBulk (H := H) (.lit (.string a1.data.toList)) = a1.size + 1 := by simp [Rows.uptoBulk]
      omega
    have hl : a0.f1.length ≤ 1048576 := by
      have := Args.massL_len (m := fun f : S31 => f.f0.size + f.f1.size + 1) (fun _ => Nat.le_add_left _ _) a0.f1
      omega
    have hf : ∀ f ∈ a0.f1, f.f0.size ≤ 1048576 := fun f hf => by
      have := Args.massL_mem (m := fun f : S31 => f.f0.size + f.f1.size + 1) hf
      omega
    obtain ⟨r, h4, h6⟩ := get_same a0.f0 a0.f1 a1 1048576 (by omega) hs1 hf (by omega)
    exact gets_walk a0.f0 A0 c0 a0.f1 a1 W hr0 hc0 (a0.f1.length + 4 * 1048576 + 2) r.1 r.2 (copied_one _ _ (by omega) _ (by omega)) (h4 _ (by omega)) (h6 _ (by omega))
  refine key.mono fun e W' ⟨he, bel⟩ => ?_
  subst he
  exact ⟨_, rfl, _, _, _, [], _, [], hW', trodAll_mk1 (shut_bool Try.underlying4 _), (trodAll_cons_mk (Below.trod laidOut (by kernel_rfl) (of_decide_eq_true (by kernel_rfl)) k0 bel lt0) (trodAll_cons_mk (shut_string Try.underlying9 y1) trodAll_mk0)), rfl, bel.frame _, fun h => by cases h⟩

set_option maxRecDepth 100000 in
theorem lifted (os : Os) (started : os.Started) (H : Type) (enc : TypeId × Value → H) (F : Stop.Interp) :
    ReturnsInHanded {} Try.checked os 3 .any ((Rows.OpenSpec.upto Rows.controlGetsSpec).pre6 enc Try.prog Try.f3 Rows.controlGetsUptoRow.domain false) (((Rows.OpenSpec.upto Rows.controlGetsSpec).at F).post enc Try.prog Try.f3 false true false false) := by
  refine returnsInHanded_of_cond (C := Try.checked) (s := Rows.OpenSpec.upto Rows.controlGetsSpec) (k := Rows.uptoSmall) rfl own started (by kernel_rfl) Try.func3
    (OpenSpec.witness (enc := enc) (C := Try.checked) (s := Rows.OpenSpec.upto Rows.controlGetsSpec) (k := Rows.uptoSmall) rfl false ⟨#[], #[.agg #[.int .i64 0, .slice none 0 0], .string ByteArray.empty], []⟩ 8 (by kernel_rfl) (by kernel_rfl) (by kernel_rfl)
      (x := ([.agg [.lit (.int .i64 0), .nil], .lit (.string [])], [], [])) (by kernel_rfl) rfl (by kernel_rfl)) ?_
  intro W base args ds gs before hval hW _ hk _
  exact contract H enc W base args ds gs before hval hW hk

theorem over : Rows.controlGetsUptoRow.holds Try.pinned (Rows.OpenSpec.upto Rows.controlGetsSpec) :=
  OpenClaim.holds_of_cond 3 Try.f3 rfl rfl rfl rfl rfl rfl rfl ⟨rfl, rfl, rfl, rfl, rfl⟩ rfl rfl rfl rfl rfl (by kernel_rfl) Try.func3 (by kernel_rfl)
    (of_decide_eq_true (by kernel_rfl)) (by unfold Func.isWrapper; first | (rw [if_pos (by decide +kernel)]; kernel_rfl) | (rw [if_neg (by decide +kernel)]; exact ⟨rfl, rfl⟩))
    (fun os started H enc _ F => lifted os started H enc F)
end Go.Proofs.Ytbaiglikmneicaa.controlGetsUpto
namespace Go.Proofs.Ytbaiglikmneicaa
/-- The statement. -/
theorem controlGetsUpto_holds : Rows.ControlGetsUptoSaid := controlGetsUpto.over
#print axioms controlGetsUpto_holds
end Go.Proofs.Ytbaiglikmneicaa
