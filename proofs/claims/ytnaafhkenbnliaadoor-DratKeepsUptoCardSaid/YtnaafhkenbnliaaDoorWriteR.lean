/- The strings.Builder that a call has made itself: copyCheck, WriteString and String, as this seat's translation has them. No conditions. The reference's comparisons of a list with itself. No conditions. What lits.Sound and the copies come to. No conditions. What depot/drat.Write comes to: the text of the steps, or the refusal. No conditions. -/
import Derived.Test.YtnaafhkenbnliaaDoorProg
import Derived.Test.YtnaafhkenbnliaaDoorShelfR
import Derived.Lib.Strings
import Derived.Lib.Slices
import Derived.Lib.Walk
import Derived.Lib.Builder
import Derived.Lib.AppendStr
import Derived.Lib.OthersKept
import Derived.Lib.UnsafeStr
import Derived.WalkKit
import Derived.KernelRfl
import Derived.Laws.Externs
import Derived.Laws.IdiomCopy
import Derived.Test.YtnaafhkenbnliaaDoorRx3
import Derived.Test.YtnaafhkenbnliaaDoorRx4
import Derived.Test.YtnaafhkenbnliaaDoorTextR
import Derived.Test.YtnaafhkenbnliaaDoorReadR
import Derived.Test.YtnaafhkenbnliaaDoorAtoiR
set_option linter.unusedVariables false
set_option linter.unusedSimpArgs false
namespace Go.Proofs.YtnaafhkenbnliaaDoor.B
open Go.RowKit Go.Lib

theorem infoByte : (Tryd.prog.info? 5).map (fun i => (i.zero, i.size, i.bytes)) = some (some (.int .u8 0), 1, 1) := by kernel_rfl
theorem sizeBuilder : (Tryd.prog.info? 52).map (·.size) = some 2 := by kernel_rfl
theorem liesBuilder : liesAt Tryd.prog Tryd.prog.depth 52 (2 / Tryd.prog.cellsOf 52) 0 52 1 = true := by kernel_rfl

set_option maxHeartbeats 1000000 in
set_option maxRecDepth 100000 in
theorem copyCheck_used (b : Nat) (w : World) (h0 : w.cell? ⟨b, 0, none⟩ = some (.pointer (some ⟨b, 0, none⟩))) :
    Calls Tryd.prog 34 #[.pointer (some ⟨b, 0, none⟩)] w fun e w' => e = .returned (.tuple #[]) ∧ w' = w := by
  obtain ⟨j, hj, _⟩ := Option.map_eq_some_iff.1 sizeBuilder
  have hne := fun w : World => Lib.run_neq_ptr_same (P := Tryd.prog) w ⟨b, 0, none⟩ Tryd.underlying49 hj
  go_enter Tryd.func34, Tryd.ntmps34
  go_wp2
  go_end0
  exact ⟨rfl, rfl⟩

set_option maxHeartbeats 1000000 in
set_option maxRecDepth 100000 in
theorem copyCheck_fresh (b : Nat) (w : World) (h0 : w.cell? ⟨b, 0, none⟩ = some (.pointer none)) (hsh : w.shape? b = some (52, 2)) (hfz : w.frozen? ⟨b, 0, none⟩ = false) :
    Calls Tryd.prog 34 #[.pointer (some ⟨b, 0, none⟩)] w fun e w' => e = .returned (.tuple #[]) ∧ w' = w.setCell ⟨b, 0, none⟩ (.pointer (some ⟨b, 0, none⟩)) := by
  obtain ⟨j, hj, hjs⟩ := Option.map_eq_some_iff.1 sizeBuilder
  have hne := fun w : World => Lib.run_neq_ptr_same (P := Tryd.prog) w ⟨b, 0, none⟩ Tryd.underlying49 hj
  go_enter Tryd.func34, Tryd.ntmps34
  go_wp2
  rw [Lib.run_to_unsafe w ⟨b, 0, none⟩ Tryd.underlying49 Tryd.underlying80 hj (by rw [hjs]; decide) hsh (Nat.zero_lt_succ 1)]
  simp only [Result.andThen]
  rw [Oper.upon_value]
  go_wp2
  rw [run_callFunc_extern Tryd.func48 (by kernel_rfl) (by kernel_rfl) (by kernel_rfl) (e := Extern.AbiNoEscape.same) (by kernel_rfl)]
  rw [Lib.run_noEscape]
  simp only [Result.andThen]
  rw [Oper.upon_value]
  go_wp2
  rw [Lib.run_from_unsafe w ⟨b, 0, none⟩ Tryd.underlying80 Tryd.underlying49 hj hsh liesBuilder]
  simp only [Result.andThen]
  rw [Oper.upon_value]
  go_wp2
  go_end0
  exact ⟨rfl, rfl⟩

theorem copyCheck (B b : Nat) (bs : List Value) (w : World) (h : Lib.IsBuilder 52 5 B b bs w) :
    Calls Tryd.prog 34 #[.pointer (some ⟨b, 0, none⟩)] w fun e w' => e = .returned (.tuple #[]) ∧ (Lib.BuilderAt 52 5 B b (.pointer (some ⟨b, 0, none⟩)) bs w' ∧ Below B w w' ∧ Lib.OthersKept 5 (some b) w w') := by
  rcases h with h | h
  · refine (copyCheck_fresh b w h.cell0 h.shape h.frozen0).mono ?_
    rintro e w' ⟨rfl, rfl⟩
    exact ⟨rfl, h.used _, (Below.refl B w).setCell (p := ⟨b, 0, none⟩) h.1 _, (Lib.OthersKept.refl 5 (some b) w).setCell _ rfl _⟩
  · refine (copyCheck_used b w h.cell0).mono ?_
    rintro e w' ⟨rfl, rfl⟩
    exact ⟨rfl, h, Below.refl B _, Lib.OthersKept.refl 5 (some b) _⟩

set_option maxHeartbeats 2000000 in
set_option maxRecDepth 100000 in
theorem writeString (B b : Nat) (bs : List Value) (s : ByteArray) (w : World) (h : Lib.IsBuilder 52 5 B b bs w) (hlen : bs.length + s.size ≤ 140737488355328) (hBw : B ≤ w.heap.size) :
    Calls Tryd.prog 20 #[.pointer (some ⟨b, 0, none⟩), .string s] w fun e w' => e = .returned (.tuple #[.int .i64 s.size, .nilIface]) ∧ (Lib.BuilderAt 52 5 B b (.pointer (some ⟨b, 0, none⟩)) (bs ++ Lib.strCells s) w' ∧ Below B w w' ∧ Lib.OthersKept 5 (some b) w w') := by
  obtain ⟨i0, hi, hz0, hz1, hz2⟩ := info_parts infoByte
  go_enter Tryd.func20, Tryd.ntmps20
  go_wp2_with fail
  refine (copyCheck B b bs _ h).mono ?_
  rintro e w1 ⟨rfl, h1, hb1, hk1⟩
  obtain ⟨hB, v, hbk, hown, hne⟩ := h1
  have c0 : w1.cell? ⟨b, 0, none⟩ = some (.pointer (some ⟨b, 0, none⟩)) := by rw [Lib.cell_of_heap hbk]; rfl
  have c1 : w1.cell? ⟨b, 1, none⟩ = some v := by rw [Lib.cell_of_heap hbk]; rfl
  go_wp2_with (at_builtin; refine Lib.wpList_append_own_string _ rfl _ _ 50 9 rfl B 5 i0 Tryd.underlying50 Tryd.underlying9 hi hz0 hz1 hz2 _ _ _ rfl hown s rfl ?c3 ?c4 ?c5 ?_)
  case c3 => unfold maxLen; omega
  case c4 => omega
  case c5 => have := hb1.size; omega
  intro v' w2 hown' hgrow _
  have hlt : b < w1.heap.size := by
    rcases Nat.lt_or_ge b w1.heap.size with h' | h'
    · exact h'
    · simp [Array.getElem?_eq_none h'] at hbk
  have hb2 : w2.heap[b]? = some (.cells #[.pointer (some ⟨b, 0, none⟩), v] 52 (0, 0)) := by
    rw [hgrow.block b hlt (fun e => hne e.symm)]
    exact hbk
  have d0 : w2.cell? ⟨b, 0, none⟩ = some (.pointer (some ⟨b, 0, none⟩)) := by rw [Lib.cell_of_heap hb2]; rfl
  have d1 : w2.cell? ⟨b, 1, none⟩ = some v := by rw [Lib.cell_of_heap hb2]; rfl
  have f1 : w2.frozen? ⟨b, 1, none⟩ = false := Lib.frozen_of_heap hb2 1
  obtain ⟨ao, n', cap, rfl⟩ : ∃ ao n' cap, v' = .slice ao n' cap := by
    rcases hown'.2 with ⟨hv, _⟩ | ⟨g, cap, cur, hv, _⟩
    · exact ⟨_, _, _, hv⟩
    · exact ⟨_, _, _, hv⟩
  go_wp2
  go_ret2
  refine ⟨rfl, ?_, ?_, ?_⟩
  · exact Lib.BuilderAt.put (T := 52) (e := 5) hB hb2 (bs' := bs ++ Lib.strCells s) (by simpa [Lib.strCells_length] using hown') (by decide)
  · exact (hb1.grown hgrow (by have := hb1.size; omega) (fun k hk => (hown.lt k hk).1)).setCell (p := ⟨b, 1, none⟩) hB _
  · refine (hk1.grown hgrow (fun g hg => ?_)).setCell _ rfl _
    rcases hown.2 with ⟨rfl, _⟩ | ⟨g', cap', cur', rfl, _, hgg, _⟩
    · simp [Value.ownBlock] at hg
    · simp only [Value.ownBlock, Option.some.injEq] at hg
      subst hg
      exact ⟨_, _, hgg⟩

/-- The builder that this call has laid itself, in the first block behind those of w0, holds xs; nothing below is touched. -/
structure Bld (w0 : World) (xs : List UInt8) (w : World) : Prop where
  b : Lib.IsBuilder 52 5 w0.heap.size w0.heap.size (Lib.byteCells xs) w
  below : Below w0.heap.size w0 w
theorem Bld.start (w0 : World) : Bld w0 [] (w0.alloc (.cells #[.pointer none, .slice none 0 0] 52)) :=
  ⟨Lib.fresh_isBuilder 52 5 w0, (Below.refl _ _).alloc (Nat.le_refl _) _⟩
theorem builderAt_on {p : Value} {bs : List Value} {w w' : World} {B b : Nat} (h : Lib.BuilderAt 52 5 B b p bs w) (hb : Below w.heap.size w w') : Lib.BuilderAt 52 5 B b p bs w' := by
  have hlt := h.lt
  obtain ⟨hB, v, hbk, hown, hne⟩ := h
  exact ⟨hB, v, (hb.block b hlt).trans hbk, hown.kept (row := none) ⟨hb.os, hb.tape, hb.output, hb.size, fun k hk _ => hb.block k hk⟩ (by cases v.ownBlock <;> simp), hne⟩
theorem Bld.on {w0 w w' : World} {xs : List UInt8} (h : Bld w0 xs w) (hb : Below w.heap.size w w') : Bld w0 xs w' :=
  ⟨h.b.imp (fun h => builderAt_on h hb) (fun h => builderAt_on h hb), h.below.trans (hb.mono h.below.size)⟩
theorem Bld.lt {w0 w : World} {xs : List UInt8} (h : Bld w0 xs w) : w0.heap.size < w.heap.size := h.b.elim (fun h => h.lt) (fun h => h.lt)
theorem Bld.alloc {w0 w : World} {xs : List UInt8} (h : Bld w0 xs w) (o : Obj) : Bld w0 xs (w.alloc o) := h.on ((Below.refl _ _).alloc (Nat.le_refl _) o)
theorem Bld.write {w0 w : World} {xs : List UInt8} (h : Bld w0 xs w) (s : ByteArray) (hlen : xs.length + s.size ≤ 140737488355328) :
    Calls Tryd.prog 20 #[.pointer (some ⟨w0.heap.size, 0, none⟩), .string s] w fun e w' => e = .returned (.tuple #[.int .i64 s.size, .nilIface]) ∧ Bld w0 (xs ++ s.data.toList) w' ∧ Lib.OthersKept 5 (some w0.heap.size) w w' := by
  refine (writeString _ _ _ s w h.b (by rw [Lib.byteCells_length]; exact hlen) h.below.size).mono ?_
  rintro e w' ⟨rfl, h1, h2, h3⟩
  refine ⟨rfl, ⟨Or.inr ?_, h.below.trans h2⟩, h3⟩
  rw [Lib.byteCells_append, ← Lib.strCells_eq]
  exact h1
theorem Bld.string {w0 w : World} {xs : List UInt8} (h : Bld w0 xs w) :
    Calls Tryd.prog 22 #[.pointer (some ⟨w0.heap.size, 0, none⟩)] w fun e w' => e = .returned (.string ⟨xs.toArray⟩) ∧ Below w0.heap.size w w' :=
  Tryd.Builder_String_any _ _ xs w h.b h.below.size

end Go.Proofs.YtnaafhkenbnliaaDoor.B

set_option linter.unusedVariables false
set_option linter.unusedSimpArgs false
namespace Go.Proofs.YtnaafhkenbnliaaDoor.R
open Go.RowKit Go.Lib Go.Proofs.YtnaafhkenbnliaaDoorW.PrintWords Go.Proofs.YtnaafhkenbnliaaDoorW.PrintLast Go.Proofs.YtnaafhkenbnliaaDoorW.PrintMore

theorem rd_natr {xs : List Int} {n : Nat} (h : n < xs.length) : rd xs (n : Int) = xs[n] := by
  unfold rd
  rw [Int.toNat_natCast, List.getD_eq_getElem?_getD, List.getElem?_eq_getElem h]
  rfl
theorem rdT_natr {xs : List S47} {n : Nat} (h : n < xs.length) : rd_T47 xs (n : Int) = xs[n] := by
  unfold rd_T47
  rw [Int.toNat_natCast, List.getD_eq_getElem?_getD, List.getElem?_eq_getElem h]
  rfl
theorem take_succr {α : Type} {xs : List α} {n : Nat} (h : n < xs.length) : xs.take (n + 1) = xs.take n ++ [xs[n]] := by
  rw [List.take_succ_eq_append_getElem h]
theorem sameInts_l0 (l : List Int) (hl : l.length ≤ 4398046511104) (d : Nat) : ∀ (k i : Nat), i ≤ l.length → l.length - i = d → d < k → depotref00_SameInts.l0 k l l (i : Int) = some true := by
  induction d with
  | zero =>
    intro k i h0 hd hk
    obtain ⟨k, rfl⟩ := succ_ofr hk
    rw [depotref00_SameInts.l0, if_neg (by omega)]
  | succ d ih =>
    intro k i h0 hd hk
    obtain ⟨k, rfl⟩ := succ_ofr hk
    rw [depotref00_SameInts.l0, if_pos (by omega), if_pos (by omega), if_pos (by omega), if_pos rfl, w64r (by omega) (by omega)]
    exact ih k (i + 1) (by omega) (by omega) (by omega)
theorem sameInts_self (l : List Int) (hl : l.length ≤ 4398046511104) (k : Nat) (hk : l.length < k) : depotref00_SameInts.f k l l = some true := by
  unfold depotref00_SameInts.f
  rw [if_pos rfl]
  exact sameInts_l0 l hl l.length k 0 (by omega) (by omega) hk
theorem sameSteps_l0 (l : List S47) (M : Nat) (hm : ∀ s ∈ l, s.f1.length ≤ M) (hM : M ≤ 4398046511104) (hl : l.length ≤ 4398046511104) (d : Nat) : ∀ (k i : Nat), i ≤ l.length → l.length - i = d → d + M + 1 < k → depotref00_SameSteps.l0 k l l (i : Int) = some true := by
  induction d with
  | zero =>
    intro k i h0 hd hk
    obtain ⟨k, rfl⟩ := succ_ofr hk
    rw [depotref00_SameSteps.l0, if_neg (by omega)]
  | succ d ih =>
    intro k i h0 hd hk
    obtain ⟨k, rfl⟩ := succ_ofr hk
    have hi : i < l.length := by omega
    have h1 := hm l[i] (List.getElem_mem hi)
    rw [depotref00_SameSteps.l0, if_pos (by omega), if_pos (by omega), if_pos (by omega), rdT_natr hi, bne_self_eq_false, if_neg (by decide), sameInts_self _ (by omega) k (by omega)]
    simp only [Option.bind_some, if_true]
    rw [w64r (by omega) (by omega)]
    exact ih k (i + 1) (by omega) (by omega) (by omega)
theorem sameSteps_self (l : List S47) (M : Nat) (hm : ∀ s ∈ l, s.f1.length ≤ M) (hM : M ≤ 4398046511104) (hl : l.length ≤ 4398046511104) (k : Nat) (hk : l.length + M + 1 < k) : depotref00_SameSteps.f k l l = some true := by
  unfold depotref00_SameSteps.f
  rw [if_pos rfl]
  exact sameSteps_l0 l M hm hM hl l.length k 0 (by omega) (by omega) hk
end Go.Proofs.YtnaafhkenbnliaaDoor.R

set_option linter.unusedVariables false
set_option linter.unusedSimpArgs false
namespace Go.Proofs.YtnaafhkenbnliaaDoor.R
open Go.RowKit Go.Lib Go.Proofs.YtnaafhkenbnliaaDoorW.PrintWords Go.Proofs.YtnaafhkenbnliaaDoorW.PrintLast Go.Proofs.YtnaafhkenbnliaaDoorW.PrintMore

theorem copyInts_l0 (l : List Int) (hl : l.length < 17592186044416) (d : Nat) : ∀ (k i : Nat), i ≤ l.length → l.length - i = d → d < k → depotref00_CopyInts.l0 k l (l.take i) (i : Int) = some l := by
  induction d with
  | zero =>
    intro k i h0 hd hk
    obtain ⟨k, rfl⟩ := succ_ofr hk
    rw [depotref00_CopyInts.l0, if_neg (by omega), List.take_of_length_le (by omega)]
  | succ d ih =>
    intro k i h0 hd hk
    obtain ⟨k, rfl⟩ := succ_ofr hk
    rw [depotref00_CopyInts.l0, if_pos (by omega), if_pos (by omega), if_pos (by rw [List.length_take]; omega), rd_natr (by omega), ← take_succr (by omega), w64r (by omega) (by omega)]
    exact ih k (i + 1) (by omega) (by omega) (by omega)
theorem copyInts_is (l : List Int) (hl : l.length < 17592186044416) (k : Nat) (hk : l.length < k) : depotref00_CopyInts.f k l = some l := by
  unfold depotref00_CopyInts.f
  exact copyInts_l0 l hl l.length k 0 (by omega) (by omega) hk
theorem sound_l0 (l : List Int) (hl : l.length < 17592186044416) (d : Nat) : ∀ (k i : Nat), i ≤ l.length → l.length - i = d → d < k → lits_Sound.l0 k l (l.length : Int) (i : Int) = some ((l.drop i).all litOk) := by
  induction d with
  | zero =>
    intro k i h0 hd hk
    obtain ⟨k, rfl⟩ := succ_ofr hk
    rw [lits_Sound.l0, if_neg (by omega), List.drop_of_length_le (by omega)]
    rfl
  | succ d ih =>
    intro k i h0 hd hk
    obtain ⟨k, rfl⟩ := succ_ofr hk
    rw [lits_Sound.l0, if_pos (by omega), if_pos (by omega), if_pos (by omega), rd_natr (by omega), formed_isR, List.drop_eq_getElem_cons (by omega), List.all_cons]
    simp only [Option.bind_some]
    cases h : litOk (l[i]'(by omega)) with
    | false => simp
    | true =>
      rw [if_pos rfl, w64r (by omega) (by omega)]
      simpa using ih k (i + 1) (by omega) (by omega) (by omega)
theorem sound_is (l : List Int) (hl : l.length < 17592186044416) (k : Nat) (hk : l.length < k) : lits_Sound.f k l = some (l.all litOk) := by
  unfold lits_Sound.f
  exact sound_l0 l hl l.length k 0 (by omega) (by omega) hk
theorem copySteps_l0 (l : List S47) (m : Nat) (hm : ∀ s ∈ l, s.f1.length ≤ m) (hm2 : m < 17592186044416) (hl : l.length < 4398046511104) (d : Nat) : ∀ (k i : Nat), i ≤ l.length → l.length - i = d → d + m + 1 < k → depotref00_CopySteps.l0 k l (l.take i) (i : Int) = some l := by
  induction d with
  | zero =>
    intro k i h0 hd hk
    obtain ⟨k, rfl⟩ := succ_ofr hk
    rw [depotref00_CopySteps.l0, if_neg (by omega), List.take_of_length_le (by omega)]
  | succ d ih =>
    intro k i h0 hd hk
    obtain ⟨k, rfl⟩ := succ_ofr hk
    have hs := hm l[i] (List.getElem_mem (by omega))
    rw [depotref00_CopySteps.l0, if_pos (by omega), if_pos (by omega), rdT_natr (by omega), copyInts_is _ (by omega) _ (by omega)]
    simp only [Option.bind_some]
    rw [if_pos (by rw [List.length_take]; omega)]
    have e : (⟨l[i].f0, l[i].f1⟩ : S47) = l[i] := rfl
    rw [e, ← take_succr (by omega), w64r (by omega) (by omega)]
    exact ih k (i + 1) (by omega) (by omega) (by omega)
theorem copySteps_is (l : List S47) (m : Nat) (hm : ∀ s ∈ l, s.f1.length ≤ m) (hm2 : m < 17592186044416) (hl : l.length < 4398046511104) (k : Nat) (hk : l.length + m + 1 < k) : depotref00_CopySteps.f k l = some l := by
  unfold depotref00_CopySteps.f
  exact copySteps_l0 l m hm hm2 hl l.length k 0 (by omega) (by omega) hk

end Go.Proofs.YtnaafhkenbnliaaDoor.R

set_option linter.unusedVariables false
set_option linter.unusedSimpArgs false
namespace Go.Proofs.YtnaafhkenbnliaaDoor.R
open Go.RowKit Go.Proofs.YtnaafhkenbnliaaDoorW.PrintWords Go.Proofs.YtnaafhkenbnliaaDoorW.PrintLast Go.Proofs.YtnaafhkenbnliaaDoorW.PrintMore
open Go.Proofs.YtnaafhkenbnliaaDoor.B (Bld)

/-- What depot/drat.Write comes to. -/
def drat_Write.f (l0 : List S47) : Option (ByteArray × Int) := if l0.length ≤ 1048576 ∧ ∀ s ∈ l0, s.f1.length ≤ 1048576 then some (dratR l0) else none

set_option maxHeartbeats 8000000 in
set_option maxRecDepth 100000 in
theorem write_walk (A0 : Option Addr) (c0 : Nat) (l0 : List S47) (r : ByteArray × Int) (w : World) (hr0 : Kd.C k47 w A0 l0.length l0) (hc0 : l0.length ≤ c0) (hE : Env w) (hn : l0.length ≤ 1048576) (hm : ∀ s ∈ l0, s.f1.length ≤ 1048576) (hr : dratR l0 = r) :
    Calls Tryd.prog 5 #[.slice A0 l0.length c0] w fun e w' => e = .returned (.tuple #[.string r.1, .int .i64 r.2]) ∧ Below w.heap.size w w' := by
  have HR := Aside0.mk hr0
  have HC := Aside0.mk hc0
  have HE := Aside0.mk hE
  have HM := Aside0.mk hm
  have HRR := Aside0.mk hr
  clear hr0 hc0 hE hm hr
  go_enter Tryd.func5, Tryd.ntmps5
  go_wp2_with fail
  go_loopw [11] (fun i wr => ∃ k : Nat, k ≤ l0.length ∧ i = .int .i64 k ∧ Aside0 ((∀ s ∈ l0.take k, soundS s = true) ∧ Bld w (stepsT (l0.take k)) wr)) (fun i _ => l0.length - (intOf i).toNat)
  case atStart => exact ⟨0, Nat.zero_le _, rfl, ⟨⟨by simp, Bld.start w⟩⟩⟩
  case round =>
    obtain ⟨k, hk, rfl, hB⟩ := hrel
    by_cases hlt : k < l0.length
    · obtain ⟨ad, A1, c1, rfl, hx0, hx1, hl1, hC1⟩ := at_T47 HR.out (k : Int) (by omega) (by omega)
      replace hx0 := (hB.out.2.below.cell (World.block_lt_of_cell? w _ hx0)).trans hx0
      replace hx1 := (hB.out.2.below.cell (World.block_lt_of_cell? w _ hx1)).trans hx1
      simp only [Int.toNat_natCast] at hx0 hx1
      have HL1 := Aside0.mk hl1
      have HC1 := Aside0.mk hC1
      clear hl1 hC1
      rw [rdT_natr hlt] at hx0 hx1 HL1 HC1
      have hsm := HM.out l0[k] (List.getElem_mem hlt)
      cases hs : soundS l0[k] with
      | false =>
        go_wp2_with fail
        refine (lits_Sound.calls (l0[k].f1.length + 1) A1 c1 l0[k].f1 false _ (Kd.C_alloc (Kd.C_below HC1.out hB.out.2.below) _) HL1.out (by rw [sound_is _ (by omega) _ (by omega)]; exact congrArg some hs)).mono ?_
        rintro e w' ⟨rfl, ⟨nd, rfl⟩⟩
        go_wp2_with fail
        go_ret2
        have hR : dratR l0 = (⟨#[]⟩, 1) := by
          unfold dratR
          rw [if_neg]
          intro h
          have := List.all_eq_true.1 h l0[k] (List.getElem_mem hlt)
          rw [hs] at this
          cases this
        rw [← HRR.out, hR]
        refine ⟨rfl, ?_⟩
        repeat (first | (with_reducible first | exact hB.out.2.below | apply below_alloc | apply pw_below_drewN | apply below_drew1) | exact hB.out.2.below)
      | true =>
        have hsz := stepsT_length (l0.take k) 1048576 (fun s h => HM.out s (List.mem_of_mem_take h)) hB.out.1
        have hbig : (stepsT (l0.take k)).length ≤ 1048576 * (22 * 1048576 + 4) := Nat.le_trans hsz (Nat.mul_le_mul_right _ (by rw [List.length_take]; omega))
        clear hsz
        cases hd : l0[k].f0 with
        | false =>
          rw [hd] at hx0
          go_wp2_with fail
          refine (lits_Sound.calls (l0[k].f1.length + 1) A1 c1 l0[k].f1 true _ (Kd.C_alloc (Kd.C_below HC1.out hB.out.2.below) _) HL1.out (by rw [sound_is _ (by omega) _ (by omega)]; exact congrArg some hs)).mono ?_
          rintro e w' ⟨rfl, ⟨nd, rfl⟩⟩
          go_wp2_with fail
          have hb2 : Bld w (stepsT (l0.take k) ++ headT l0[k].f0) ((wr.alloc (.cells #[.bool false, .slice A1 l0[k].f1.length c1] 47)).drewN nd) := by
            rw [hd]
            simpa [headT] using (hB.out.2.alloc _).on (pw_below_drewN (Below.refl _ _) _)
          replace hb2 : Bld w (stepsT (l0.take k) ++ headT l0[k].f0) _ := hb2
          go_loopw [25] (fun j w3 => ∃ m : Nat, m ≤ l0[k].f1.length ∧ j = .int .i64 m ∧ Aside0 (Bld w (stepsT (l0.take k) ++ headT l0[k].f0 ++ wordsT (l0[k].f1.take m)) w3)) (fun j _ => l0[k].f1.length - (intOf j).toNat)
          case atStart => exact ⟨0, Nat.zero_le _, rfl, ⟨by simpa [wordsT] using hb2⟩⟩
          case round =>
            obtain ⟨m, hmle, rfl, hB3⟩ := hrel
            have hwl := wordsT_length (l0[k].f1.take m) (List.all_eq_true.2 fun x hx => List.all_eq_true.1 hs x (List.mem_of_mem_take hx))
            rw [List.length_take] at hwl
            have hhl : (headT l0[k].f0).length ≤ 2 := by rw [hd]; decide
            have hlen3 : (stepsT (l0.take k) ++ headT l0[k].f0 ++ wordsT (l0[k].f1.take m)).length ≤ 1048576 * (22 * 1048576 + 4) + 2 + 22 * 1048576 := by
              rw [List.length_append, List.length_append]; omega
            by_cases hmt : m < l0[k].f1.length
            · obtain ⟨ad2, e2, hy⟩ := Kd.at_int (Kd.C_below HC1.out hB3.out.below) (m : Int) (by omega) (by omega)
              subst e2
              rw [rd_natr hmt] at hy
              simp only [Int.toNat_natCast] at hy
              have hxr := litOk_range (List.all_eq_true.1 hs l0[k].f1[m] (List.getElem_mem hmt))
              have hxl := Lib.itoa_length_le l0[k].f1[m] (by omega) (by omega)
              go_wp2_with fail
              refine (strconv_Itoa_21.calls l0[k].f1[m] _ _ (HE.out.below hB3.out.below) (by unfold strconv_Itoa_21.f; exact if_pos (by omega))).mono ?_
              rintro e w5 ⟨rfl, hb5⟩
              have hB5 := Aside0.mk (hB3.out.on hb5)
              go_wp2_with fail
              refine (Bld.write hB5.out _ (by rw [show ∀ a b : ByteArray, (a ++ b).size = a.size + b.size from fun a b => ByteArray.size_append]; show _ + ((Lib.itoa l0[k].f1[m]).length + 1) ≤ _; omega)).mono ?_
              rintro e w6 ⟨rfl, hb6, hk6⟩
              go_wp2_with fail
              go_roundw
              case rel => exact ⟨m + 1, by omega, by go_num, ⟨by rw [take_succr hmt, wordsT_snoc, ← List.append_assoc]; simpa using hb6⟩⟩
              case measure => simp [intOf]; omega
            · obtain rfl : m = l0[k].f1.length := by omega
              rw [List.take_length] at hB3
              go_wp2_with fail
              refine (Bld.write hB3.out _ (by rw [List.take_length] at hlen3; show _ + 2 ≤ _; omega)).mono ?_
              rintro e w6 ⟨rfl, hb6, hk6⟩
              go_wp2_with fail
              go_roundw
              case rel =>
                refine ⟨k + 1, by omega, by go_num, ⟨⟨fun s h => ?_, ?_⟩⟩⟩
                · rw [take_succr hlt, List.mem_append, List.mem_singleton] at h
                  rcases h with h | rfl
                  · exact hB.out.1 s h
                  · exact hs
                · rw [take_succr hlt, stepsT_snoc, stepT, ← List.append_assoc, ← List.append_assoc]
                  exact hb6
              case measure => simp [intOf]; omega
        | true =>
          rw [hd] at hx0
          go_wp2_with fail
          refine (lits_Sound.calls (l0[k].f1.length + 1) A1 c1 l0[k].f1 true _ (Kd.C_alloc (Kd.C_below HC1.out hB.out.2.below) _) HL1.out (by rw [sound_is _ (by omega) _ (by omega)]; exact congrArg some hs)).mono ?_
          rintro e w' ⟨rfl, ⟨nd, rfl⟩⟩
          go_wp2_with fail
          refine (Bld.write (xs := stepsT (l0.take k)) (w0 := w) ((hB.out.2.alloc _).on (pw_below_drewN (Below.refl _ _) _)) _ (by show (stepsT (l0.take k)).length + 2 ≤ _; omega)).mono ?_
          rintro e w2 ⟨rfl, hb2, hk2⟩
          have hz := hk2 wr.heap.size (.cells #[.bool true, .slice A1 l0[k].f1.length c1] 47) (heap_alloc_new wr _) (by have := hB.out.2.lt; simp; omega) (by intro c fz h; cases h)
          have hz0 : w2.cell? ⟨wr.heap.size, 0, none⟩ = some (.bool true) := by rw [Lib.cell_of_heap hz]; rfl
          have hz1 : w2.cell? ⟨wr.heap.size, 1, none⟩ = some (.slice A1 l0[k].f1.length c1) := by rw [Lib.cell_of_heap hz]; rfl
          go_wp2_with fail
          replace hb2 : Bld w (stepsT (l0.take k) ++ headT l0[k].f0) w2 := by rw [hd]; exact hb2
          go_loopw [25] (fun j w3 => ∃ m : Nat, m ≤ l0[k].f1.length ∧ j = .int .i64 m ∧ Aside0 (Bld w (stepsT (l0.take k) ++ headT l0[k].f0 ++ wordsT (l0[k].f1.take m)) w3)) (fun j _ => l0[k].f1.length - (intOf j).toNat)
          case atStart => exact ⟨0, Nat.zero_le _, rfl, ⟨by simpa [wordsT] using hb2⟩⟩
          case round =>
            obtain ⟨m, hmle, rfl, hB3⟩ := hrel
            have hwl := wordsT_length (l0[k].f1.take m) (List.all_eq_true.2 fun x hx => List.all_eq_true.1 hs x (List.mem_of_mem_take hx))
            rw [List.length_take] at hwl
            have hhl : (headT l0[k].f0).length ≤ 2 := by rw [hd]; decide
            have hlen3 : (stepsT (l0.take k) ++ headT l0[k].f0 ++ wordsT (l0[k].f1.take m)).length ≤ 1048576 * (22 * 1048576 + 4) + 2 + 22 * 1048576 := by
              rw [List.length_append, List.length_append]; omega
            by_cases hmt : m < l0[k].f1.length
            · obtain ⟨ad2, e2, hy⟩ := Kd.at_int (Kd.C_below HC1.out hB3.out.below) (m : Int) (by omega) (by omega)
              subst e2
              rw [rd_natr hmt] at hy
              simp only [Int.toNat_natCast] at hy
              have hxr := litOk_range (List.all_eq_true.1 hs l0[k].f1[m] (List.getElem_mem hmt))
              have hxl := Lib.itoa_length_le l0[k].f1[m] (by omega) (by omega)
              go_wp2_with fail
              refine (strconv_Itoa_21.calls l0[k].f1[m] _ _ (HE.out.below hB3.out.below) (by unfold strconv_Itoa_21.f; exact if_pos (by omega))).mono ?_
              rintro e w5 ⟨rfl, hb5⟩
              have hB5 := Aside0.mk (hB3.out.on hb5)
              go_wp2_with fail
              refine (Bld.write hB5.out _ (by rw [show ∀ a b : ByteArray, (a ++ b).size = a.size + b.size from fun a b => ByteArray.size_append]; show _ + ((Lib.itoa l0[k].f1[m]).length + 1) ≤ _; omega)).mono ?_
              rintro e w6 ⟨rfl, hb6, hk6⟩
              go_wp2_with fail
              go_roundw
              case rel => exact ⟨m + 1, by omega, by go_num, ⟨by rw [take_succr hmt, wordsT_snoc, ← List.append_assoc]; simpa using hb6⟩⟩
              case measure => simp [intOf]; omega
            · obtain rfl : m = l0[k].f1.length := by omega
              rw [List.take_length] at hB3
              go_wp2_with fail
              refine (Bld.write hB3.out _ (by rw [List.take_length] at hlen3; show _ + 2 ≤ _; omega)).mono ?_
              rintro e w6 ⟨rfl, hb6, hk6⟩
              go_wp2_with fail
              go_roundw
              case rel =>
                refine ⟨k + 1, by omega, by go_num, ⟨⟨fun s h => ?_, ?_⟩⟩⟩
                · rw [take_succr hlt, List.mem_append, List.mem_singleton] at h
                  rcases h with h | rfl
                  · exact hB.out.1 s h
                  · exact hs
                · rw [take_succr hlt, stepsT_snoc, stepT, ← List.append_assoc, ← List.append_assoc]
                  exact hb6
              case measure => simp [intOf]; omega
    · obtain rfl : k = l0.length := by omega
      rw [List.take_length] at hB
      go_wp2_with fail
      refine (Bld.string hB.out.2).mono ?_
      rintro e w' ⟨rfl, hb'⟩
      go_wp2_with fail
      go_ret2
      have hR : dratR l0 = (⟨(stepsT l0).toArray⟩, 0) := by
        unfold dratR
        rw [if_pos (List.all_eq_true.2 hB.out.1)]
      rw [← HRR.out, hR]
      exact ⟨rfl, hB.out.2.below.trans hb'⟩

theorem drat_Write.calls (A0 : Option Addr) (c0 : Nat) (l0 : List S47) (r1 : ByteArray) (r2 : Int) (w : World) (hr0 : Kd.C k47 w A0 l0.length l0) (hc0 : l0.length ≤ c0) (hE : Env w) (h : drat_Write.f l0 = some (r1, r2)) :
    Calls Tryd.prog 5 #[.slice A0 l0.length c0] w fun e w' => e = .returned (.tuple #[.string r1, .int .i64 r2]) ∧ Below w.heap.size w w' := by
  unfold drat_Write.f at h
  by_cases hh : l0.length ≤ 1048576 ∧ ∀ s ∈ l0, s.f1.length ≤ 1048576
  · rw [if_pos hh] at h
    exact write_walk A0 c0 l0 (r1, r2) w hr0 hc0 hE hh.1 hh.2 (Option.some.inj h)
  · rw [if_neg hh] at h
    cases h
end Go.Proofs.YtnaafhkenbnliaaDoor.R
