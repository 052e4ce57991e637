/- The card DimacsKeepsUptoCardSaid: for everything that is asked (two formulas, a list of truths, two texts; of bulk at most 1048576 together) the law DimacsKeeps answers true and leaves its argument as it was. -/
import Derived.Test.YtlhajfepcggjaaaGreatDoorRows
import Derived.Test.YtlhajfepcggjaaaGreatDoorCards
import Derived.Test.YtlhajfepcggjaaaGreatDoorTie
import Derived.Test.YtlhajfepcggjaaaGreatDoorArgs
import Derived.Test.YtlhajfepcggjaaaGreatDoorLaidR
import Derived.Test.YtlhajfepcggjaaaGreatDoorKR
import Derived.WalkKit
import Derived.ProofKit
import Derived.OpenShut
import Derived.ShutString
import Derived.ChangeOld
import Derived.Below
import Derived.SizedLaws
import Derived.JoinedCond
import Derived.Carry
import Derived.Deep.DeepHandedRow
import Derived.Lib.LaidTab
import Derived.Deep.DeepWitnessRowRef
set_option linter.unusedVariables false
namespace Go.Proofs.YtlhajfepcggjaaaGreatDoor.dimacsKeepsUpto
open Go.ChangeShapes Go.WideShapes Go.ChangeAt Go.RowKit
open Go.ChangeMaps (open_string shut_string)
open Go.Proofs.YtlhajfepcggjaaaGreatDoor.R Go.Proofs.YtlhajfepcggjaaaGreatDoorW.PrintWords

theorem own : ownKnob Tryz.prog.godebug = none := by kernel_rfl
theorem laidOut : laidOutB Tryz.prog = true := by kernel_rfl
def kForm : Kd (Int × List (List Int)) := Kd.iso (Kd.pair (Kd.int .i64) (Kd.slice 43 (Kd.slice 3 (Kd.int .i64)))) (fun x : Int × List (List Int) => x)
theorem form_parts {W : World} {v : Int} {l : List (List Int)} {cs : List Value} (h : kForm.K W (v, l) cs) : ∃ A c, cs = [.int .i64 v, .slice A l.length c] ∧ l.length ≤ c ∧ Kd.C (Kd.slice 3 (Kd.int .i64)) W A l.length l := by
 obtain ⟨c1, c2, rfl, h1, h2⟩ := h
 obtain rfl : c1 = [.int .i64 v] := h1
 obtain ⟨A, c, rfl, hl, hc⟩ := h2
 exact ⟨A, c, rfl, hl, hc⟩
theorem opensForm : Args.Opens 24 kForm (fun x => Args.massL (fun c : List Int => c.length + 1) x.2 + 1) (fun _ => True) := Args.opens_weaken (Args.opens_struct (f := fun x : Int × List (List Int) => x) (g := fun x => x) Tryz.underlying24 (by kernel_rfl) (Args.opensL_cons (Args.opens_int (k := .i64) (by kernel_rfl) (by kernel_rfl)) rfl (Args.opensL_one (Args.opens_slice (e := 43) (by kernel_rfl) (by kernel_rfl) (Args.opens_weaken (m' := fun c : List Int => c.length + 1) (ok' := fun _ => True) (Args.opens_slice (e := 3) (by kernel_rfl) (by kernel_rfl) (Args.opens_int (k := .i64) (by kernel_rfl) (by kernel_rfl))) (fun c => by have := Args.massL_len (m := fun _ : Int => 1) (fun _ => Nat.le_refl 1) c; omega) (fun _ _ => trivial))) rfl) (by simp [Kd.int, Kd.scalar])) (fun _ => rfl)) (fun x => by show Args.massL _ x.2 + 1 ≤ 1 + (Args.massL _ x.2 + 1) + 1; omega) (fun _ _ => trivial)
abbrev Ask := (Int × List (List Int)) × (Int × List (List Int)) × List Bool × ByteArray × ByteArray
def kAsk : Kd Ask := Kd.iso (Kd.pair kForm (Kd.pair kForm (Kd.pair (Kd.slice 4 Kd.bool) (Kd.pair Kd.string Kd.string)))) (fun x : Ask => x)
theorem ask_parts {W : World} {v u : Int} {l m : List (List Int)} {q : List Bool} {s t : ByteArray} {cs : List Value} (h : kAsk.K W ((v, l), (u, m), q, s, t) cs) : ∃ A0 c0 A1 c1 A2 c2, cs = [.int .i64 v, .slice A0 l.length c0, .int .i64 u, .slice A1 m.length c1, .slice A2 q.length c2, .string s, .string t] ∧ (l.length ≤ c0 ∧ Kd.C (Kd.slice 3 (Kd.int .i64)) W A0 l.length l) ∧ (m.length ≤ c1 ∧ Kd.C (Kd.slice 3 (Kd.int .i64)) W A1 m.length m) ∧ q.length ≤ c2 ∧ Kd.C Kd.bool W A2 q.length q := by
 obtain ⟨x1, r1, rfl, h1, g1⟩ := h
 obtain ⟨x2, r2, rfl, h2, g2⟩ := g1
 obtain ⟨x3, r3, rfl, h3, g3⟩ := g2
 obtain ⟨x4, x5, rfl, h4, h5⟩ := g3
 obtain ⟨A0, c0, rfl, i1, i2⟩ := form_parts h1
 obtain ⟨A1, c1, rfl, i3, i4⟩ := form_parts h2
 obtain ⟨A2, c2, rfl, i5, i6⟩ := h3
 obtain rfl : x4 = [.string s] := h4
 obtain rfl : x5 = [.string t] := h5
 exact ⟨A0, c0, A1, c1, A2, c2, rfl, ⟨i1, i2⟩, ⟨i3, i4⟩, i5, i6⟩
set_option linter.unusedSimpArgs false in
theorem opensAsk : Args.Opens 27 kAsk (fun x => (Args.massL (fun c : List Int => c.length + 1) x.1.2 + 1) + ((Args.massL (fun c : List Int => c.length + 1) x.2.1.2 + 1) + (x.2.2.1.length + (x.2.2.2.1.size + x.2.2.2.2.size)))) (fun _ => True) :=
 Args.opens_weaken (Args.opens_struct (f := fun x : Ask => x) (g := fun x => x) Tryz.underlying27 (by kernel_rfl) (Args.opensL_cons opensForm rfl (Args.opensL_cons opensForm rfl (Args.opensL_cons (Args.opens_slice (e := 4) (by kernel_rfl) (by kernel_rfl) (Args.opens_bool (by kernel_rfl) (by kernel_rfl))) rfl (Args.opensL_cons (Args.opens_string (by kernel_rfl) (by kernel_rfl)) rfl (Args.opensL_one (Args.opens_string (by kernel_rfl) (by kernel_rfl)) rfl) (by simp [Kd.int, Kd.scalar, kForm, Kd.iso, Kd.pair, Kd.slice, Kd.bool, Kd.string])) (by simp [Kd.int, Kd.scalar, kForm, Kd.iso, Kd.pair, Kd.slice, Kd.bool, Kd.string])) (by simp [Kd.int, Kd.scalar, kForm, Kd.iso, Kd.pair, Kd.slice, Kd.bool, Kd.string])) (by simp [Kd.int, Kd.scalar, kForm, Kd.iso, Kd.pair, Kd.slice, Kd.bool, Kd.string])) (fun _ => rfl)) (fun x => by
  have h1 := Args.massL_len (m := fun _ : Bool => 1) (fun _ => Nat.le_refl 1) x.2.2.1
  show (Args.massL (fun c : List Int => c.length + 1) x.1.2 + 1) + ((Args.massL (fun c : List Int => c.length + 1) x.2.1.2 + 1) + (x.2.2.1.length + (x.2.2.2.1.size + x.2.2.2.2.size))) ≤ ((Args.massL (fun c : List Int => c.length + 1) x.1.2 + 1) + ((Args.massL (fun c : List Int => c.length + 1) x.2.1.2 + 1) + ((Args.massL (fun _ : Bool => 1) x.2.2.1 + 1) + ((x.2.2.2.1.size + 1) + (x.2.2.2.2.size + 1))))) + 1
  omega) (fun _ _ => trivial)
theorem env_of {W : World} (h : laidMetH Tryz.prog Rows.dimacsKeepsUptoRow.laid W) (hs : W.ShapedOpen Tryz.prog) : Env W := ⟨pow_of (h.filter (fun x => x.1 == "internal/strconv.uint64pow10")), ml_of hs, es_of (h.filter (fun x => x.1 == "strconv.ErrSyntax")), er_of (h.filter (fun x => x.1 == "strconv.ErrRange"))⟩

set_option maxRecDepth 100000 in
/-- What the call gives for every argument. -/
theorem contract (H : Type) (enc : TypeId × Value → H) (W : World) (base : Nat) (args : Array Value) (ds gs : List (DataW H)) (before : List MemPlace)
  (hval0 : ∀ (j : Nat) t v, Tryz.f3.params[j]? = some t → args[j]? = some v → Value.okWide Tryz.prog W .any base t v)
  (hW : DataW.Whole enc Tryz.prog Tryz.f3.params.toList Rows.dimacsKeepsSpec.vars false W args.toList ds gs before) (hk : Rows.uptoSmall H (ds ++ gs) = true) (hL : laidMetH Tryz.prog Rows.dimacsKeepsUptoRow.laid W) (hsh : W.ShapedOpen Tryz.prog) :
  Calls Tryz.prog 3 args W fun e W' => ∃ v, e = .returned v ∧ Rows.dimacsKeepsSpec.post enc Tryz.prog Tryz.f3 false true false false W args v W' := by
 have hval : ∀ (j : Nat) t v, Tryz.f3.params[j]? = some t → args[j]? = some v → Value.okWide Tryz.prog W .any base t v := hval0
 have hb := Args.bulk_bound hk
 have hW' := hW
 obtain ⟨p, q, hA0, hV, rfl, hfz, hnd⟩ := hW
 have hA : DataW.TrodAll enc Tryz.prog W 0 (fun _ => true) true Tryz.f3.params.toList args.toList ds p := hA0
 rw [Tryz.params3] at hA hval
 obtain ⟨v0, vs0, d0, ds0, p0, q0, hargs, rfl, rfl, h0, r0⟩ := trodAll_cons hA
 obtain ⟨rfl, rfl, rfl⟩ := trodAll_nil r0
 obtain rfl : args = #[v0] := by cases args; simp_all
 obtain ⟨rfl, rfl⟩ := trodVars_none hV
 have hb0 : Rows.uptoBulk d0 ≤ 1048576 := by simpa [Rows.uptoBulkAll] using hb
 have k0 := h0
 have lt0 : ∀ x ∈ p0, x.block < W.heap.size := by obtain ⟨m, hm⟩ := k0; exact DataW.trod_lt m _ _ _ hm
 obtain ⟨a0, cs0, rfl, hK0, hm0, ok0⟩ := Args.open_struct (opensAsk) Tryz.underlying27 (hval 0 27 v0 rfl rfl) h0
 obtain ⟨⟨v0, l0⟩, ⟨v1, l1⟩, q0, s0, t0⟩ := a0
 obtain ⟨A0, c0, A1, c1, A2, c2, rfl, ⟨hc0, hr0⟩, ⟨hc1, hr1⟩, hc2, hr2⟩ := ask_parts hK0
 clear hA0 hval0
 have key : Calls Tryz.prog 3 #[.agg #[.int .i64 v0, .slice A0 l0.length c0, .int .i64 v1, .slice A1 l1.length c1, .slice A2 q0.length c2, .string s0, .string t0]] W fun e w' => e = .returned (.bool true) ∧ Below W.heap.size W w' := by
  have hm1 : (Args.massL (fun c : List Int => c.length + 1) l0 + 1) + ((Args.massL (fun c : List Int => c.length + 1) l1 + 1) + (q0.length + (s0.size + t0.size))) ≤ Rows.uptoBulk d0 := hm0
  have hl0 := Args.massL_len (m := fun c : List Int => c.length + 1) (fun _ => Nat.le_add_left _ _) l0
  have hl1 := Args.massL_len (m := fun c : List Int => c.length + 1) (fun _ => Nat.le_add_left _ _) l1
  have hs0 : ∀ s ∈ l0, s.length ≤ 1048576 := fun s hs => by
   have := Args.massL_mem (m := fun c : List Int => c.length + 1) hs
   omega
  have hs1 : ∀ s ∈ l1, s.length ≤ 1048576 := fun s hs => by
   have := Args.massL_mem (m := fun c : List Int => c.length + 1) hs
   omega
  exact KP.keeps_calls v0 v1 l0 l1 q0 A0 c0 A1 c1 A2 c2 s0 t0 W hr0 hc0 hr1 hc1 hr2 hc2 (env_of hL hsh) (by omega) (by omega) (by omega) hs0 (by omega) hs1 (by omega)
 refine key.mono fun e W' ⟨he, bel⟩ => ?_
 subst he
 exact ⟨_, rfl, _, _, _, [], _, [], hW', trodAll_mk1 (shut_bool Tryz.underlying4 _), (trodAll_cons_mk (Below.trod laidOut (by kernel_rfl) (of_decide_eq_true (by kernel_rfl)) k0 bel lt0) trodAll_mk0), rfl, bel.frame _, fun h => by cases h⟩

/-- A world for the witness: the settled one, the listed variables holding what their initialisers lay. -/
noncomputable def w0_ (os : Os) : World := World.holding Tryz.prog os ⟨#[], #[], []⟩
noncomputable def h0_ (os : Os) : Array Obj := (w0_ os).heap
noncomputable def h1_ (os : Os) : Array Obj := (h0_ os).modify 3 fun
 | .cells _ t frozen => .cells #[.int .u8 0, .int .u8 1, .int .u8 28, .int .u8 2, .int .u8 29, .int .u8 14, .int .u8 24, .int .u8 3, .int .u8 30, .int .u8 22, .int .u8 20, .int .u8 15, .int .u8 25, .int .u8 17, .int .u8 4, .int .u8 8, .int .u8 31, .int .u8 27, .int .u8 13, .int .u8 23, .int .u8 21, .int .u8 19, .int .u8 16, .int .u8 7, .int .u8 26, .int .u8 12, .int .u8 18, .int .u8 6, .int .u8 11, .int .u8 5, .int .u8 10, .int .u8 9] t frozen
 | o => o
noncomputable def h2_ (os : Os) : Array Obj := (h1_ os).modify 4 fun
 | .cells _ t frozen => .cells #[.int .u8 0, .int .u8 1, .int .u8 56, .int .u8 2, .int .u8 57, .int .u8 49, .int .u8 28, .int .u8 3, .int .u8 61, .int .u8 58, .int .u8 42, .int .u8 50, .int .u8 38, .int .u8 29, .int .u8 17, .int .u8 4, .int .u8 62, .int .u8 47, .int .u8 59, .int .u8 36, .int .u8 45, .int .u8 43, .int .u8 51, .int .u8 22, .int .u8 53, .int .u8 39, .int .u8 33, .int .u8 30, .int .u8 24, .int .u8 18, .int .u8 12, .int .u8 5, .int .u8 63, .int .u8 55, .int .u8 48, .int .u8 27, .int .u8 60, .int .u8 41, .int .u8 37, .int .u8 16, .int .u8 46, .int .u8 35, .int .u8 44, .int .u8 21, .int .u8 52, .int .u8 32, .int .u8 23, .int .u8 11, .int .u8 54, .int .u8 26, .int .u8 40, .int .u8 15, .int .u8 34, .int .u8 20, .int .u8 31, .int .u8 10, .int .u8 25, .int .u8 14, .int .u8 19, .int .u8 9, .int .u8 13, .int .u8 8, .int .u8 7, .int .u8 6] t frozen
 | o => o
noncomputable def h3_ (os : Os) : Array Obj := (h2_ os).modify 0 fun
 | .cells _ t frozen => .cells #[.int .u64 1, .int .u64 10, .int .u64 100, .int .u64 1000, .int .u64 10000, .int .u64 100000, .int .u64 1000000, .int .u64 10000000, .int .u64 100000000, .int .u64 1000000000, .int .u64 10000000000, .int .u64 100000000000, .int .u64 1000000000000, .int .u64 10000000000000, .int .u64 100000000000000, .int .u64 1000000000000000, .int .u64 10000000000000000, .int .u64 100000000000000000, .int .u64 1000000000000000000, .int .u64 10000000000000000000] t frozen
 | o => o
noncomputable def h4_ (os : Os) : Array Obj := (h3_ os).modify 7 fun
 | .cells _ t frozen => .cells #[.int .u8 128, .int .u8 191, .int .u8 160, .int .u8 191, .int .u8 128, .int .u8 159, .int .u8 144, .int .u8 191, .int .u8 128, .int .u8 143, .int .u8 0, .int .u8 0, .int .u8 0, .int .u8 0, .int .u8 0, .int .u8 0, .int .u8 0, .int .u8 0, .int .u8 0, .int .u8 0, .int .u8 0, .int .u8 0, .int .u8 0, .int .u8 0, .int .u8 0, .int .u8 0, .int .u8 0, .int .u8 0, .int .u8 0, .int .u8 0, .int .u8 0, .int .u8 0] t frozen
 | o => o
noncomputable def h5_ (os : Os) : Array Obj := (h4_ os).modify 2 fun
 | .cells _ t frozen => .cells #[.iface 145 (.pointer (some ⟨(h0_ os).size + 0, 0, none⟩))] t frozen
 | o => o
noncomputable def h6_ (os : Os) : Array Obj := (h5_ os).modify 1 fun
 | .cells _ t frozen => .cells #[.iface 145 (.pointer (some ⟨(h0_ os).size + 1, 0, none⟩))] t frozen
 | o => o
noncomputable def h7_ (os : Os) : Array Obj := (h6_ os).modify 6 fun
 | .cells _ t frozen => .cells (Go.Pinned.utf8FirstZ.map fun (z : Nat) => Value.int .u8 (z : Int)).toArray t frozen
 | o => o
noncomputable def laidWorld (os : Os) : World := { w0_ os with heap := h7_ os ++ #[(.cells #[.string ⟨#[118, 97, 108, 117, 101, 32, 111, 117, 116, 32, 111, 102, 32, 114, 97, 110, 103, 101]⟩] 147), (.cells #[.string ⟨#[105, 110, 118, 97, 108, 105, 100, 32, 115, 121, 110, 116, 97, 120]⟩] 147)] }
theorem laid_met (os : Os) : laidMet Tryz.prog Rows.dimacsKeepsUptoRow.laid ((laidWorld os).forCall (fun _ _ => 0) ⟨#[], #[.agg #[.int .i64 0, .slice none 0 0, .int .i64 0, .slice none 0 0, .slice none 0 0, .string ByteArray.empty, .string ByteArray.empty]], []⟩).memory :=
 laidMet_of_run' 8 (by kernel_rfl) (by kernel_rfl)
theorem reads (os : Os) {H : Type} (enc : TypeId × Value → H) : ∃ places, DataW.whole enc Tryz.prog ((laidWorld os).forCall (fun _ _ => 0) ⟨#[], #[.agg #[.int .i64 0, .slice none 0 0, .int .i64 0, .slice none 0 0, .slice none 0 0, .string ByteArray.empty, .string ByteArray.empty]], []⟩).memory Tryz.f3.params.toList Rows.dimacsKeepsSpec.vars false (#[.agg #[.int .i64 0, .slice none 0 0, .int .i64 0, .slice none 0 0, .slice none 0 0, .string ByteArray.empty, .string ByteArray.empty]] : Array Value).toList 8 = some ([.agg [.agg [.lit (.int .i64 0), .nil], .agg [.lit (.int .i64 0), .nil], .nil, .lit (.string []), .lit (.string [])]], [], places) :=
 ⟨[], by kernel_rfl⟩
set_option maxRecDepth 100000 in
theorem lifted (os : Os) (started : os.Started) (H : Type) (enc : TypeId × Value → H) (F : Stop.Interp) :
  ReturnsInHanded {} Tryz.checked os 3 .any ((Rows.OpenSpec.upto Rows.dimacsKeepsSpec).preRow enc Tryz.prog Tryz.f3 Rows.dimacsKeepsUptoRow.domain false Rows.dimacsKeepsUptoRow.laid) (((Rows.OpenSpec.upto Rows.dimacsKeepsSpec).at F).post enc Tryz.prog Tryz.f3 false true false false) := by
 obtain ⟨places, hx⟩ := reads os enc
 refine returnsInHanded_of_row (C := Tryz.checked) (s := Rows.OpenSpec.upto Rows.dimacsKeepsSpec) own started (by kernel_rfl) Tryz.func3
  (witness_row_at (enc := enc) (C := Tryz.checked) false (laidWorld os) #[.agg #[.int .i64 0, .slice none 0 0, .int .i64 0, .slice none 0 0, .slice none 0 0, .string ByteArray.empty, .string ByteArray.empty]] rfl (by kernel_rfl) (by kernel_rfl) (by kernel_rfl)
   (OpenSpec.preRow_of_cond 8 hx (by kernel_rfl) (fun k hk => by cases hk; kernel_rfl) (by kernel_rfl) (laid_met os))) ?_
 intro W base args ds gs before hval hW hcnd hcond hsz hL hsh _
 exact contract H enc W base args ds gs before hval hW (hcond _ rfl) hL hsh

theorem said : Rows.DimacsKeepsUptoSaid :=
 OpenClaim.holds_of_cond 3 Tryz.f3 rfl rfl rfl rfl rfl rfl rfl ⟨rfl, rfl, rfl, rfl, rfl⟩ rfl rfl rfl rfl rfl (by kernel_rfl) Tryz.func3 (by kernel_rfl)
  (of_decide_eq_true (by kernel_rfl)) (by unfold Func.isWrapper; first | (rw [if_pos (by decide +kernel)]; kernel_rfl) | (rw [if_neg (by decide +kernel)]; exact ⟨rfl, rfl⟩))
  (fun os started H enc _ F => by rw [OpenClaim.pre_eq_preRow]; exact lifted os started H enc F)

theorem plain (f : FuncId) (fn : Func) (hf : Tryz.pinned.checked.prog.funcNamed "depot/depotlaw03.DimacsKeeps" = some f) (hfn : Tryz.pinned.checked.prog.funcs[f]? = some fn) :
  true = Tryz.pinned.checked.prog.looks [] ∧ ∀ (j : Nat) t, fn.params[j]? = some t → Tryz.pinned.checked.prog.wantsStandIn t = false := by
 obtain rfl : f = 3 := Option.some.inj ((show Tryz.prog.funcNamed "depot/depotlaw03.DimacsKeeps" = some 3 by kernel_rfl).symm.trans hf) |>.symm
 obtain rfl : fn = Tryz.f3 := (Option.some.inj (Tryz.func3.symm.trans hfn)).symm
 refine ⟨by kernel_rfl, fun j t ht => ?_⟩
 rw [Tryz.params3] at ht
 have hm := Array.mem_of_getElem? ht
 simp only [List.mem_toArray, List.mem_cons, List.not_mem_nil, or_false] at hm
 subst hm
 exact (show Tryz.prog.wantsStandIn 27 = false by kernel_rfl)

theorem card : Rows.DimacsKeepsUptoCardSaid :=
 Claim7.holds_tied_plain_at .later [] _ _ _ _ said (fun _ h => by cases h) (by kernel_rfl) (fun _ h => by cases h) dimacsKeepsUpto_row_tie rfl ⟨rfl, rfl⟩ (by kernel_rfl) rfl plain (by kernel_rfl)
end Go.Proofs.YtlhajfepcggjaaaGreatDoor.dimacsKeepsUpto
namespace Go.Proofs.YtlhajfepcggjaaaGreatDoor
/-- The card. -/
theorem dimacsKeepsUpto_holds : Rows.DimacsKeepsUptoCardSaid := dimacsKeepsUpto.card
#print axioms dimacsKeepsUpto_holds
end Go.Proofs.YtlhajfepcggjaaaGreatDoor
