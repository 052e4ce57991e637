/- The card DratKeepsUptoCardSaid: for all two lists of steps and all two texts (of bulk at most 1048576 together) the law DratKeeps answers true and leaves its arguments as they were. -/
import Derived.Test.YtnaafhkenbnliaaDoorRows
import Derived.Test.YtnaafhkenbnliaaDoorCards
import Derived.Test.YtnaafhkenbnliaaDoorTie
import Derived.Test.YtnaafhkenbnliaaDoorArgs
import Derived.Test.YtnaafhkenbnliaaDoorLaidR
import Derived.Test.YtnaafhkenbnliaaDoorKP
import Derived.WalkKit
import Derived.ProofKit
import Derived.OpenShut
import Derived.ShutString
import Derived.ChangeOld
import Derived.Below
import Derived.SizedLaws
import Derived.JoinedCond
import Derived.Carry
import Derived.Deep.DeepHandedRow
import Derived.Lib.LaidTab
import Derived.Deep.DeepWitnessRowRef
set_option linter.unusedVariables false
namespace Go.Proofs.YtnaafhkenbnliaaDoor.dratKeepsUpto
open Go.ChangeShapes Go.WideShapes Go.ChangeAt Go.RowKit
open Go.ChangeMaps (open_string shut_string)
open Go.Proofs.YtnaafhkenbnliaaDoor.R Go.Proofs.YtnaafhkenbnliaaDoorW.PrintWords

theorem own : ownKnob Tryd.prog.godebug = none := by kernel_rfl
theorem laidOut : laidOutB Tryd.prog = true := by kernel_rfl
theorem opensStep : Args.Opens 47 k47 (fun s => s.f1.length + 1) (fun _ => True) := Args.opens_weaken (Args.opens_struct (g := fun x => ⟨x.1, x.2⟩) Tryd.underlying47 (by kernel_rfl) (Args.opensL_cons (Args.opens_bool (by kernel_rfl) (by kernel_rfl)) rfl (Args.opensL_one (Args.opens_slice (e := 3) (by kernel_rfl) (by kernel_rfl) (Args.opens_int (k := .i64) (by kernel_rfl) (by kernel_rfl))) rfl) (by simp [Kd.bool, Kd.scalar])) _ (fun _ => rfl)) (fun s => by have := Args.massL_len (m := fun _ : Int => 1) (fun _ => Nat.le_refl 1) s.f1; show s.f1.length + 1 ≤ 1 + (Args.massL (fun _ : Int => 1) s.f1 + 1) + 1; omega) (fun _ _ => trivial)
theorem mass_bulk : ∀ l : List S47, Args.massL (fun s : S47 => s.f1.length + 1) l = bulkS l
  | [] => rfl
  | s :: l => by simp only [Args.massL, bulkS, mass_bulk l]
theorem bulk_len : ∀ l : List S47, l.length ≤ bulkS l
  | [] => by simp [bulkS]
  | s :: l => by
    have := bulk_len l
    simp only [bulkS, List.length_cons]
    omega
theorem bulk_mem {s : S47} : ∀ {l : List S47}, s ∈ l → s.f1.length ≤ bulkS l
  | x :: l, h => by
    simp only [bulkS]
    rcases List.mem_cons.1 h with rfl | h
    · omega
    · have := bulk_mem h; omega
theorem env_of {W : World} (h : laidMetH Tryd.prog Rows.dratKeepsUptoRow.laid W) (hs : W.ShapedOpen Tryd.prog) : Env W := ⟨pow_of (h.filter (fun x => x.1 == "internal/strconv.uint64pow10")), ml_of hs, es_of (h.filter (fun x => x.1 == "strconv.ErrSyntax")), er_of (h.filter (fun x => x.1 == "strconv.ErrRange"))⟩

set_option maxRecDepth 100000 in
/-- What the call gives for every argument. -/
theorem contract (H : Type) (enc : TypeId × Value → H) (W : World) (base : Nat) (args : Array Value) (ds gs : List (DataW H)) (before : List MemPlace)
    (hval0 : ∀ (j : Nat) t v, Tryd.f3.params[j]? = some t → args[j]? = some v → Value.okWide Tryd.prog W .any base t v)
    (hW : DataW.Whole enc Tryd.prog Tryd.f3.params.toList Rows.dratKeepsSpec.vars false W args.toList ds gs before) (hk : Rows.uptoSmall H (ds ++ gs) = true) (hL : laidMetH Tryd.prog Rows.dratKeepsUptoRow.laid W) (hsh : W.ShapedOpen Tryd.prog) :
    Calls Tryd.prog 3 args W fun e W' => ∃ v, e = .returned v ∧ Rows.dratKeepsSpec.post enc Tryd.prog Tryd.f3 false true false false W args v W' := by
  have hval : ∀ (j : Nat) t v, Tryd.f3.params[j]? = some t → args[j]? = some v → Value.okWide Tryd.prog W .any base t v := hval0
  have hb := Args.bulk_bound hk
  have hW' := hW
  obtain ⟨p, q, hA0, hV, rfl, hfz, hnd⟩ := hW
  have hA : DataW.TrodAll enc Tryd.prog W 0 (fun _ => true) true Tryd.f3.params.toList args.toList ds p := hA0
  rw [Tryd.params3] at hA hval
  obtain ⟨v0, vs0, d0, ds0, p0, q0, hargs, rfl, rfl, h0, r0⟩ := trodAll_cons hA
  obtain ⟨v1, vs1, d1, ds1, p1, q1, rfl, rfl, rfl, h1, r1⟩ := trodAll_cons r0
  obtain ⟨v2, vs2, d2, ds2, p2, q2, rfl, rfl, rfl, h2, r2⟩ := trodAll_cons r1
  obtain ⟨v3, vs3, d3, ds3, p3, q3, rfl, rfl, rfl, h3, r3⟩ := trodAll_cons r2
  obtain ⟨rfl, rfl, rfl⟩ := trodAll_nil r3
  obtain rfl : args = #[v0, v1, v2, v3] := by cases args; simp_all
  obtain ⟨rfl, rfl⟩ := trodVars_none hV
  simp only [List.append_nil, Rows.uptoBulkAll] at hb
  have k0 := h0
  have lt0 : ∀ x ∈ p0, x.block < W.heap.size := by obtain ⟨m, hm⟩ := k0; exact DataW.trod_lt m _ _ _ hm
  obtain ⟨A0, c0, l0, rfl, hc0, hr0, hm0, ok0⟩ := Args.open_slice (Args.opens_slice (by kernel_rfl) (by kernel_rfl) opensStep) Tryd.underlying22 (hval 0 22 v0 rfl rfl) h0
  have k1 := h1
  have lt1 : ∀ x ∈ p1, x.block < W.heap.size := by obtain ⟨m, hm⟩ := k1; exact DataW.trod_lt m _ _ _ hm
  obtain ⟨A1, c1, l1, rfl, hc1, hr1, hm1, ok1⟩ := Args.open_slice (Args.opens_slice (by kernel_rfl) (by kernel_rfl) opensStep) Tryd.underlying22 (hval 1 22 v1 rfl rfl) h1
  obtain ⟨a2, rfl, rfl, rfl, y2⟩ := open_string Tryd.underlying9 (hval 2 9 v2 rfl rfl) h2
  obtain ⟨a3, rfl, rfl, rfl, y3⟩ := open_string Tryd.underlying9 (hval 3 9 v3 rfl rfl) h3
  clear hA0 hval0
  have key : Calls Tryd.prog 3 #[.slice A0 l0.length c0, .slice A1 l1.length c1, .string a2, .string a3] W fun e w' => e = .returned (.bool true) ∧ Below W.heap.size W w' := by
    have hbk0 : bulkS l0 ≤ 1048576 := by
      have : Args.massL (fun s : S47 => s.f1.length + 1) l0 + 1 ≤ Rows.uptoBulk d0 := hm0
      rw [mass_bulk] at this
      omega
    have hbk1 : bulkS l1 ≤ 1048576 := by
      have : Args.massL (fun s : S47 => s.f1.length + 1) l1 + 1 ≤ Rows.uptoBulk d1 := hm1
      rw [mass_bulk] at this
      omega
    have hs2 : a2.size ≤ 1048576 := by
      have e : Rows.uptoBulk (H := H) (.lit (.string a2.data.toList)) = a2.size + 1 := by simp [Rows.uptoBulk]
      omega
    have hs3 : a3.size ≤ 1048576 := by
      have e : Rows.uptoBulk (H := H) (.lit (.string a3.data.toList)) = a3.size + 1 := by simp [Rows.uptoBulk]
      omega
    have hl0 := bulk_len l0
    have hl1 := bulk_len l1
    exact KP.keeps_calls 5000000000001 (by omega) l0 l1 A0 c0 A1 c1 a2 a3 W hr0 hc0 hr1 hc1 (env_of hL hsh) hs2 hs3 (by omega) (fun x hx => Nat.le_trans (bulk_mem hx) hbk0) (by omega) (fun x hx => Nat.le_trans (bulk_mem hx) hbk1)
  refine key.mono fun e W' ⟨he, bel⟩ => ?_
  subst he
  exact ⟨_, rfl, _, _, _, [], _, [], hW', trodAll_mk1 (shut_bool Tryd.underlying4 _), (trodAll_cons_mk (Below.trod laidOut (by kernel_rfl) (of_decide_eq_true (by kernel_rfl)) k0 bel lt0) (trodAll_cons_mk (Below.trod laidOut (by kernel_rfl) (of_decide_eq_true (by kernel_rfl)) k1 bel lt1) (trodAll_cons_mk (shut_string Tryd.underlying9 y2) (trodAll_cons_mk (shut_string Tryd.underlying9 y3) trodAll_mk0)))), rfl, bel.frame _, fun h => by cases h⟩

/-- A world for the witness: the settled one, the listed variables holding what their initialisers lay. -/
noncomputable def w0_ (os : Os) : World := World.holding Tryd.prog os ⟨#[], #[], []⟩
noncomputable def h0_ (os : Os) : Array Obj := (w0_ os).heap
noncomputable def h1_ (os : Os) : Array Obj := (h0_ os).modify 4 fun
  | .cells _ t frozen => .cells #[.int .u8 0, .int .u8 1, .int .u8 28, .int .u8 2, .int .u8 29, .int .u8 14, .int .u8 24, .int .u8 3, .int .u8 30, .int .u8 22, .int .u8 20, .int .u8 15, .int .u8 25, .int .u8 17, .int .u8 4, .int .u8 8, .int .u8 31, .int .u8 27, .int .u8 13, .int .u8 23, .int .u8 21, .int .u8 19, .int .u8 16, .int .u8 7, .int .u8 26, .int .u8 12, .int .u8 18, .int .u8 6, .int .u8 11, .int .u8 5, .int .u8 10, .int .u8 9] t frozen
  | o => o
noncomputable def h2_ (os : Os) : Array Obj := (h1_ os).modify 5 fun
  | .cells _ t frozen => .cells #[.int .u8 0, .int .u8 1, .int .u8 56, .int .u8 2, .int .u8 57, .int .u8 49, .int .u8 28, .int .u8 3, .int .u8 61, .int .u8 58, .int .u8 42, .int .u8 50, .int .u8 38, .int .u8 29, .int .u8 17, .int .u8 4, .int .u8 62, .int .u8 47, .int .u8 59, .int .u8 36, .int .u8 45, .int .u8 43, .int .u8 51, .int .u8 22, .int .u8 53, .int .u8 39, .int .u8 33, .int .u8 30, .int .u8 24, .int .u8 18, .int .u8 12, .int .u8 5, .int .u8 63, .int .u8 55, .int .u8 48, .int .u8 27, .int .u8 60, .int .u8 41, .int .u8 37, .int .u8 16, .int .u8 46, .int .u8 35, .int .u8 44, .int .u8 21, .int .u8 52, .int .u8 32, .int .u8 23, .int .u8 11, .int .u8 54, .int .u8 26, .int .u8 40, .int .u8 15, .int .u8 34, .int .u8 20, .int .u8 31, .int .u8 10, .int .u8 25, .int .u8 14, .int .u8 19, .int .u8 9, .int .u8 13, .int .u8 8, .int .u8 7, .int .u8 6] t frozen
  | o => o
noncomputable def h3_ (os : Os) : Array Obj := (h2_ os).modify 0 fun
  | .cells _ t frozen => .cells #[.int .u64 1, .int .u64 10, .int .u64 100, .int .u64 1000, .int .u64 10000, .int .u64 100000, .int .u64 1000000, .int .u64 10000000, .int .u64 100000000, .int .u64 1000000000, .int .u64 10000000000, .int .u64 100000000000, .int .u64 1000000000000, .int .u64 10000000000000, .int .u64 100000000000000, .int .u64 1000000000000000, .int .u64 10000000000000000, .int .u64 100000000000000000, .int .u64 1000000000000000000, .int .u64 10000000000000000000] t frozen
  | o => o
noncomputable def h4_ (os : Os) : Array Obj := (h3_ os).modify 3 fun
  | .cells _ t frozen => .cells #[.iface 120 (.pointer (some ⟨(h0_ os).size + 0, 0, none⟩))] t frozen
  | o => o
noncomputable def h5_ (os : Os) : Array Obj := (h4_ os).modify 2 fun
  | .cells _ t frozen => .cells #[.iface 120 (.pointer (some ⟨(h0_ os).size + 1, 0, none⟩))] t frozen
  | o => o
noncomputable def laidWorld (os : Os) : World := { w0_ os with heap := h5_ os ++ #[(.cells #[.string ⟨#[118, 97, 108, 117, 101, 32, 111, 117, 116, 32, 111, 102, 32, 114, 97, 110, 103, 101]⟩] 122), (.cells #[.string ⟨#[105, 110, 118, 97, 108, 105, 100, 32, 115, 121, 110, 116, 97, 120]⟩] 122)] }
theorem laid_met (os : Os) : laidMet Tryd.prog Rows.dratKeepsUptoRow.laid ((laidWorld os).forCall (fun _ _ => 0) ⟨#[], #[.slice none 0 0, .slice none 0 0, .string ByteArray.empty, .string ByteArray.empty], []⟩).memory :=
  laidMet_of_run' 8 (by kernel_rfl) (by kernel_rfl)
theorem reads (os : Os) {H : Type} (enc : TypeId × Value → H) : ∃ places, DataW.whole enc Tryd.prog ((laidWorld os).forCall (fun _ _ => 0) ⟨#[], #[.slice none 0 0, .slice none 0 0, .string ByteArray.empty, .string ByteArray.empty], []⟩).memory Tryd.f3.params.toList Rows.dratKeepsSpec.vars false (#[.slice none 0 0, .slice none 0 0, .string ByteArray.empty, .string ByteArray.empty] : Array Value).toList 8 = some ([.nil, .nil, .lit (.string []), .lit (.string [])], [], places) :=
  ⟨[], by kernel_rfl⟩
set_option maxRecDepth 100000 in
theorem lifted (os : Os) (started : os.Started) (H : Type) (enc : TypeId × Value → H) (F : Stop.Interp) :
    ReturnsInHanded {} Tryd.checked os 3 .any ((Rows.OpenSpec.upto Rows.dratKeepsSpec).preRow enc Tryd.prog Tryd.f3 Rows.dratKeepsUptoRow.domain false Rows.dratKeepsUptoRow.laid) (((Rows.OpenSpec.upto Rows.dratKeepsSpec).at F).post enc Tryd.prog Tryd.f3 false true false false) := by
  obtain ⟨places, hx⟩ := reads os enc
  refine returnsInHanded_of_row (C := Tryd.checked) (s := Rows.OpenSpec.upto Rows.dratKeepsSpec) own started (by kernel_rfl) Tryd.func3
    (witness_row_at (enc := enc) (C := Tryd.checked) false (laidWorld os) #[.slice none 0 0, .slice none 0 0, .string ByteArray.empty, .string ByteArray.empty] rfl (by kernel_rfl) (by kernel_rfl) (by kernel_rfl)
      (OpenSpec.preRow_of_cond 8 hx (by kernel_rfl) (fun k hk => by cases hk; kernel_rfl) (by kernel_rfl) (laid_met os))) ?_
  intro W base args ds gs before hval hW hcnd hcond hsz hL hsh _
  exact contract H enc W base args ds gs before hval hW (hcond _ rfl) hL hsh

theorem said : Rows.DratKeepsUptoSaid :=
  OpenClaim.holds_of_cond 3 Tryd.f3 rfl rfl rfl rfl rfl rfl rfl ⟨rfl, rfl, rfl, rfl, rfl⟩ rfl rfl rfl rfl rfl (by kernel_rfl) Tryd.func3 (by kernel_rfl)
    (of_decide_eq_true (by kernel_rfl)) (by unfold Func.isWrapper; first | (rw [if_pos (by decide +kernel)]; kernel_rfl) | (rw [if_neg (by decide +kernel)]; exact ⟨rfl, rfl⟩))
    (fun os started H enc _ F => by rw [OpenClaim.pre_eq_preRow]; exact lifted os started H enc F)

theorem plain (f : FuncId) (fn : Func) (hf : Tryd.pinned.checked.prog.funcNamed "depot/depotlaw09.DratKeeps" = some f) (hfn : Tryd.pinned.checked.prog.funcs[f]? = some fn) :
    true = Tryd.pinned.checked.prog.looks [] ∧ ∀ (j : Nat) t, fn.params[j]? = some t → Tryd.pinned.checked.prog.wantsStandIn t = false := by
  obtain rfl : f = 3 := Option.some.inj ((show Tryd.prog.funcNamed "depot/depotlaw09.DratKeeps" = some 3 by kernel_rfl).symm.trans hf) |>.symm
  obtain rfl : fn = Tryd.f3 := (Option.some.inj (Tryd.func3.symm.trans hfn)).symm
  refine ⟨by kernel_rfl, fun j t ht => ?_⟩
  rw [Tryd.params3] at ht
  have hm := Array.mem_of_getElem? ht
  simp only [List.mem_toArray, List.mem_cons, List.not_mem_nil, or_false] at hm
  rcases hm with rfl | rfl | rfl | rfl
  · exact (show Tryd.prog.wantsStandIn 22 = false by kernel_rfl)
  · exact (show Tryd.prog.wantsStandIn 22 = false by kernel_rfl)
  · exact (show Tryd.prog.wantsStandIn 9 = false by kernel_rfl)
  · exact (show Tryd.prog.wantsStandIn 9 = false by kernel_rfl)

theorem card : Rows.DratKeepsUptoCardSaid :=
  Claim7.holds_tied_plain_at .later [] _ _ _ _ said (fun _ h => by cases h) (by kernel_rfl) (fun _ h => by cases h) dratKeepsUpto_row_tie rfl ⟨rfl, rfl⟩ (by kernel_rfl) rfl plain (by kernel_rfl)
end Go.Proofs.YtnaafhkenbnliaaDoor.dratKeepsUpto
namespace Go.Proofs.YtnaafhkenbnliaaDoor
/-- The card. -/
theorem dratKeepsUpto_holds : Rows.DratKeepsUptoCardSaid := dratKeepsUpto.card
#print axioms dratKeepsUpto_holds
end Go.Proofs.YtnaafhkenbnliaaDoor
