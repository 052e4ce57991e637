/- The card ControlKeepsUptoCardSaid: for every list of stanzas and all two texts (of bulk at most 1048576 together) the law ControlKeeps answers true and leaves its arguments as they were. -/
import Derived.Test.YtbaiglikmneicaaDoorRows
import Derived.Test.YtbaiglikmneicaaDoorCards
import Derived.Test.YtbaiglikmneicaaDoorTie
import Derived.Test.YtbaiglikmneicaaDoorArgs
import Derived.Test.YtbaiglikmneicaaDoorLaidC
import Derived.Test.YtbaiglikmneicaaDoorKD
import Derived.WalkKit
import Derived.ProofKit
import Derived.OpenShut
import Derived.ShutString
import Derived.ChangeOld
import Derived.Below
import Derived.SizedLaws
import Derived.JoinedCond
import Derived.Carry
import Derived.Deep.DeepHandedRow
import Derived.Lib.LaidTab
import Derived.Deep.DeepWitnessRowRef
set_option linter.unusedVariables false
namespace Go.Proofs.YtbaiglikmneicaaDoor.controlKeepsUpto
open Go.ChangeShapes Go.WideShapes Go.ChangeAt Go.RowKit
open Go.ChangeMaps (open_string shut_string)
open Go.Proofs.YtbaiglikmneicaaDoor.P Go.Proofs.YtbaiglikmneicaaDoorW.PrintWords

theorem own : ownKnob Tryd.prog.godebug = none := by kernel_rfl
theorem laidOut : laidOutB Tryd.prog = true := by kernel_rfl
theorem opensField : Args.Opens 50 k50 (fun f => f.f0.size + f.f1.size + 1) (fun f => f.f0.size ≤ maxLen ∧ f.f1.size ≤ maxLen) := Args.opens_weaken (Args.opens_struct (g := fun x => ⟨x.1, x.2⟩) Tryd.underlying50 (by kernel_rfl) (Args.opensL_cons (Args.opens_string (by kernel_rfl) (by kernel_rfl)) rfl (Args.opensL_one (Args.opens_string (by kernel_rfl) (by kernel_rfl)) rfl) (by simp [Kd.string, Kd.scalar])) _ (fun _ => rfl)) (fun f => by show f.f0.size + f.f1.size + 1 ≤ (f.f0.size + 1) + (f.f1.size + 1) + 1; omega) (fun f h => h)
theorem opensStanza : Args.Opens 41 k41 (fun s => massF s.f1 + 1) (fun s => (Lit.int .i64 s.f0).wf = true) := Args.opens_weaken (Args.opens_struct (g := fun x => ⟨x.1, x.2⟩) Tryd.underlying41 (by kernel_rfl) (Args.opensL_cons (Args.opens_int (k := .i64) (by kernel_rfl) (by kernel_rfl)) rfl (Args.opensL_one (Args.opens_slice (e := 50) (by kernel_rfl) (by kernel_rfl) opensField) rfl) (by simp [Kd.int, Kd.scalar])) _ (fun _ => rfl)) (fun s => by show massF s.f1 + 1 ≤ 1 + (Args.massL _ s.f1 + 1) + 1; unfold massF; omega) (fun s h => h.1)
theorem env_of {W : World} (h : laidMetH Tryd.prog Rows.controlKeepsUptoRow.laid W) (hs : W.ShapedOpen Tryd.prog) : Env W := ⟨ml_of hs, u8_of (h.filter (fun x => x.1 == "unicode/utf8.first")) (h.filter (fun x => x.1 == "unicode/utf8.acceptRanges"))⟩

set_option maxRecDepth 100000 in
/-- What the call gives for every argument. -/
theorem contract (H : Type) (enc : TypeId × Value → H) (W : World) (base : Nat) (args : Array Value) (ds gs : List (DataW H)) (before : List MemPlace)
    (hval0 : ∀ (j : Nat) t v, Tryd.f7.params[j]? = some t → args[j]? = some v → Value.okWide Tryd.prog W .any base t v)
    (hW : DataW.Whole enc Tryd.prog Tryd.f7.params.toList Rows.controlKeepsSpec.vars false W args.toList ds gs before) (hk : Rows.uptoSmall H (ds ++ gs) = true) (hL : laidMetH Tryd.prog Rows.controlKeepsUptoRow.laid W) (hsh : W.ShapedOpen Tryd.prog) :
    Calls Tryd.prog 7 args W fun e W' => ∃ v, e = .returned v ∧ Rows.controlKeepsSpec.post enc Tryd.prog Tryd.f7 false true false false W args v W' := by
  have hval : ∀ (j : Nat) t v, Tryd.f7.params[j]? = some t → args[j]? = some v → Value.okWide Tryd.prog W .any base t v := hval0
  have hb := Args.bulk_bound hk
  have hW' := hW
  obtain ⟨p, q, hA0, hV, rfl, hfz, hnd⟩ := hW
  have hA : DataW.TrodAll enc Tryd.prog W 0 (fun _ => true) true Tryd.f7.params.toList args.toList ds p := hA0
  rw [Tryd.params7] at hA hval
  obtain ⟨v0, vs0, d0, ds0, p0, q0, hargs, rfl, rfl, h0, r0⟩ := trodAll_cons hA
  obtain ⟨v1, vs1, d1, ds1, p1, q1, rfl, rfl, rfl, h1, r1⟩ := trodAll_cons r0
  obtain ⟨v2, vs2, d2, ds2, p2, q2, rfl, rfl, rfl, h2, r2⟩ := trodAll_cons r1
  obtain ⟨rfl, rfl, rfl⟩ := trodAll_nil r2
  obtain rfl : args = #[v0, v1, v2] := by cases args; simp_all
  obtain ⟨rfl, rfl⟩ := trodVars_none hV
  simp only [List.append_nil, Rows.uptoBulkAll] at hb
  have k0 := h0
  have lt0 : ∀ x ∈ p0, x.block < W.heap.size := by obtain ⟨m, hm⟩ := k0; exact DataW.trod_lt m _ _ _ hm
  obtain ⟨A0, c0, l0, rfl, hc0, hr0, hm0, ok0⟩ := Args.open_slice (Args.opens_slice (by kernel_rfl) (by kernel_rfl) opensStanza) Tryd.underlying23 (hval 0 23 v0 rfl rfl) h0
  obtain ⟨a1, rfl, rfl, rfl, y1⟩ := open_string Tryd.underlying9 (hval 1 9 v1 rfl rfl) h1
  obtain ⟨a2, rfl, rfl, rfl, y2⟩ := open_string Tryd.underlying9 (hval 2 9 v2 rfl rfl) h2
  clear hA0 hval0
  have key : Calls Tryd.prog 7 #[.slice A0 l0.length c0, .string a1, .string a2] W fun e w' => e = .returned (.bool true) ∧ Below W.heap.size W w' := by
    have hbk : massS l0 ≤ 1048576 := by
      have : Args.massL (fun s : S41 => massF s.f1 + 1) l0 + 1 ≤ Rows.uptoBulk d0 := hm0
      show Args.massL _ l0 ≤ _
      omega
    have hs1 : a1.size ≤ 1048576 := by
      have e : Rows.uptoBulk (H := H) (.lit (.string a1.data.toList)) = a1.size + 1 := by simp [Rows.uptoBulk]
      omega
    have hs2 : a2.size ≤ 1048576 := by
      have e : Rows.uptoBulk (H := H) (.lit (.string a2.data.toList)) = a2.size + 1 := by simp [Rows.uptoBulk]
      omega
    obtain ⟨k, h1, h2, h3, h4, h5, h6⟩ := KP.keeps_pure l0 hbk
    exact KP.keeps_calls k l0 _ A0 c0 a1 a2 W hr0 hc0 (env_of hL hsh) hs1 hs2 h1 h2 h3 h4 h5 h6
  refine key.mono fun e W' ⟨he, bel⟩ => ?_
  subst he
  exact ⟨_, rfl, _, _, _, [], _, [], hW', trodAll_mk1 (shut_bool Tryd.underlying4 _), (trodAll_cons_mk (Below.trod laidOut (by kernel_rfl) (of_decide_eq_true (by kernel_rfl)) k0 bel lt0) (trodAll_cons_mk (shut_string Tryd.underlying9 y1) (trodAll_cons_mk (shut_string Tryd.underlying9 y2) trodAll_mk0))), rfl, bel.frame _, fun h => by cases h⟩

/-- A world for the witness: the settled one, the listed variables holding what their initialisers lay. -/
noncomputable def w0_ (os : Os) : World := World.holding Tryd.prog os ⟨#[], #[], []⟩
noncomputable def h0_ (os : Os) : Array Obj := (w0_ os).heap
noncomputable def h1_ (os : Os) : Array Obj := (h0_ os).modify 1 fun
  | .cells _ t frozen => .cells #[.int .u8 128, .int .u8 191, .int .u8 160, .int .u8 191, .int .u8 128, .int .u8 159, .int .u8 144, .int .u8 191, .int .u8 128, .int .u8 143, .int .u8 0, .int .u8 0, .int .u8 0, .int .u8 0, .int .u8 0, .int .u8 0, .int .u8 0, .int .u8 0, .int .u8 0, .int .u8 0, .int .u8 0, .int .u8 0, .int .u8 0, .int .u8 0, .int .u8 0, .int .u8 0, .int .u8 0, .int .u8 0, .int .u8 0, .int .u8 0, .int .u8 0, .int .u8 0] t frozen
  | o => o
noncomputable def h2_ (os : Os) : Array Obj := (h1_ os).modify 0 fun
  | .cells _ t frozen => .cells (Go.Pinned.utf8FirstZ.map fun (z : Nat) => Value.int .u8 (z : Int)).toArray t frozen
  | o => o
noncomputable def laidWorld (os : Os) : World := { w0_ os with heap := h2_ os }
theorem laid_met (os : Os) : laidMet Tryd.prog Rows.controlKeepsUptoRow.laid ((laidWorld os).forCall (fun _ _ => 0) ⟨#[], #[.slice none 0 0, .string ByteArray.empty, .string ByteArray.empty], []⟩).memory :=
  laidMet_of_run' 8 (by kernel_rfl) (by kernel_rfl)
theorem reads (os : Os) {H : Type} (enc : TypeId × Value → H) : ∃ places, DataW.whole enc Tryd.prog ((laidWorld os).forCall (fun _ _ => 0) ⟨#[], #[.slice none 0 0, .string ByteArray.empty, .string ByteArray.empty], []⟩).memory Tryd.f7.params.toList Rows.controlKeepsSpec.vars false (#[.slice none 0 0, .string ByteArray.empty, .string ByteArray.empty] : Array Value).toList 8 = some ([.nil, .lit (.string []), .lit (.string [])], [], places) :=
  ⟨[], by kernel_rfl⟩
set_option maxRecDepth 100000 in
theorem lifted (os : Os) (started : os.Started) (H : Type) (enc : TypeId × Value → H) (F : Stop.Interp) :
    ReturnsInHanded {} Tryd.checked os 7 .any ((Rows.OpenSpec.upto Rows.controlKeepsSpec).preRow enc Tryd.prog Tryd.f7 Rows.controlKeepsUptoRow.domain false Rows.controlKeepsUptoRow.laid) (((Rows.OpenSpec.upto Rows.controlKeepsSpec).at F).post enc Tryd.prog Tryd.f7 false true false false) := by
  obtain ⟨places, hx⟩ := reads os enc
  refine returnsInHanded_of_row (C := Tryd.checked) (s := Rows.OpenSpec.upto Rows.controlKeepsSpec) own started (by kernel_rfl) Tryd.func7
    (witness_row_at (enc := enc) (C := Tryd.checked) false (laidWorld os) #[.slice none 0 0, .string ByteArray.empty, .string ByteArray.empty] rfl (by kernel_rfl) (by kernel_rfl) (by kernel_rfl)
      (OpenSpec.preRow_of_cond 8 hx (by kernel_rfl) (fun k hk => by cases hk; kernel_rfl) (by kernel_rfl) (laid_met os))) ?_
  intro W base args ds gs before hval hW hcnd hcond hsz hL hsh _
  exact contract H enc W base args ds gs before hval hW (hcond _ rfl) hL hsh

theorem said : Rows.ControlKeepsUptoSaid :=
  OpenClaim.holds_of_cond 7 Tryd.f7 rfl rfl rfl rfl rfl rfl rfl ⟨rfl, rfl, rfl, rfl, rfl⟩ rfl rfl rfl rfl rfl (by kernel_rfl) Tryd.func7 (by kernel_rfl)
    (of_decide_eq_true (by kernel_rfl)) (by unfold Func.isWrapper; first | (rw [if_pos (by decide +kernel)]; kernel_rfl) | (rw [if_neg (by decide +kernel)]; exact ⟨rfl, rfl⟩))
    (fun os started H enc _ F => by rw [OpenClaim.pre_eq_preRow]; exact lifted os started H enc F)

theorem plain (f : FuncId) (fn : Func) (hf : Tryd.pinned.checked.prog.funcNamed "depot/depotlaw21.ControlKeeps" = some f) (hfn : Tryd.pinned.checked.prog.funcs[f]? = some fn) :
    false = Tryd.pinned.checked.prog.looks [] ∧ ∀ (j : Nat) t, fn.params[j]? = some t → Tryd.pinned.checked.prog.wantsStandIn t = false := by
  obtain rfl : f = 7 := Option.some.inj ((show Tryd.prog.funcNamed "depot/depotlaw21.ControlKeeps" = some 7 by kernel_rfl).symm.trans hf) |>.symm
  obtain rfl : fn = Tryd.f7 := (Option.some.inj (Tryd.func7.symm.trans hfn)).symm
  refine ⟨by kernel_rfl, fun j t ht => ?_⟩
  rw [Tryd.params7] at ht
  have hm := Array.mem_of_getElem? ht
  simp only [List.mem_toArray, List.mem_cons, List.not_mem_nil, or_false] at hm
  rcases hm with rfl | rfl | rfl
  · exact (show Tryd.prog.wantsStandIn 23 = false by kernel_rfl)
  · exact (show Tryd.prog.wantsStandIn 9 = false by kernel_rfl)
  · exact (show Tryd.prog.wantsStandIn 9 = false by kernel_rfl)

theorem card : Rows.ControlKeepsUptoCardSaid :=
  Claim7.holds_tied_plain_at .later [] _ _ _ _ said (fun _ h => by cases h) (by kernel_rfl) (fun _ h => by cases h) controlKeepsUpto_row_tie rfl ⟨rfl, rfl⟩ (by kernel_rfl) rfl plain (by kernel_rfl)
end Go.Proofs.YtbaiglikmneicaaDoor.controlKeepsUpto
namespace Go.Proofs.YtbaiglikmneicaaDoor
/-- The card. -/
theorem controlKeepsUpto_holds : Rows.ControlKeepsUptoCardSaid := controlKeepsUpto.card
#print axioms controlKeepsUpto_holds
end Go.Proofs.YtbaiglikmneicaaDoor
