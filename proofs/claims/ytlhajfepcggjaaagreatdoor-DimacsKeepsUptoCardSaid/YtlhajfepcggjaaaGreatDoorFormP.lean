/- Small lemmas on numbers, lists and rounds for the pure parts of this seat's statements. No conditions. The strings.Builder that a call has made itself: copyCheck, WriteString and String, as this seat's translation has them. No conditions. More on the builder that a call has made itself: a store beside it. No conditions. What depot/dimacs.WriteAnswer comes to: the text of the answer. No conditions. What a literal is; what Formed and Sound come to, in the program and in the reference; copies. No conditions. What Formed comes to, in the program and in the reference: the clauses' literals are literals within the variables. No conditions. What depot/dimacs.Write comes to: the text of the formula, or the refusal. No conditions. A row of bytes that a call has made by []byte(s) and appends to: []byte(s) marks its block (a place behind the last cell), so the laws over owned rows do not take it. No conditions. What depot/depotref03.WriteAnswer comes to: the text of the answer. No conditions. What depot/depotref03.Write comes to: the text of the formula, or the refusal. No conditions. -/
import Derived.Test.YtlhajfepcggjaaaGreatDoorRx0
import Derived.Test.YtlhajfepcggjaaaGreatDoorProg
import Derived.Test.YtlhajfepcggjaaaGreatDoorShelfR
import Derived.Lib.Strings
import Derived.Lib.Slices
import Derived.Lib.Walk
import Derived.Lib.Builder
import Derived.Lib.AppendStr
import Derived.Lib.OthersKept
import Derived.Lib.UnsafeStr
import Derived.WalkKit
import Derived.KernelRfl
import Derived.Laws.Externs
import Derived.Laws.IdiomCopy
import Derived.Test.YtlhajfepcggjaaaGreatDoorRx1
import Derived.Test.YtlhajfepcggjaaaGreatDoorRx2
import Derived.Test.YtlhajfepcggjaaaGreatDoorRx3
import Derived.Test.YtlhajfepcggjaaaGreatDoorAtoiR
import Derived.Lib.ItoaLen
import Derived.Deep.RegionHeld3
import Derived.Lib.FrozenHead2
import Derived.Lib.ConvBytes
import Derived.Lib.AtoiErrMem
import Derived.Lib.SlBytesConst
import Derived.Deep.RegionWith
set_option linter.unusedVariables false
set_option linter.unusedSimpArgs false
namespace Go.Proofs.YtlhajfepcggjaaaGreatDoor.P
open Go.Proofs.YtlhajfepcggjaaaGreatDoor.R
open Go.RowKit Go.Proofs.YtlhajfepcggjaaaGreatDoorW.PrintWords Go.Proofs.YtlhajfepcggjaaaGreatDoorW.PrintLast Go.Proofs.YtlhajfepcggjaaaGreatDoorW.PrintMore

theorem w64 {x : Int} (h0 : -9223372036854775808 ≤ x) (h1 : x ≤ 9223372036854775807) : wrap64 x = x := by
 unfold wrap64; omega
theorem rd_nat {xs : List Int} {n : Nat} (h : n < xs.length) : rd xs (n : Int) = xs[n] := by
 unfold rd
 rw [Int.toNat_natCast, List.getD_eq_getElem?_getD, List.getElem?_eq_getElem h]
 rfl
theorem rdOf_nat {α : Type} {z : α} {xs : List α} {n : Nat} (h : n < xs.length) : rdOf z xs (n : Int) = xs[n] := by
 unfold rdOf
 rw [Int.toNat_natCast, List.getD_eq_getElem?_getD, List.getElem?_eq_getElem h]
 rfl
theorem succ_of {k d : Nat} (h : d < k) : ∃ m, k = m + 1 := ⟨k - 1, by omega⟩
theorem take_succ' {α : Type} {xs : List α} {n : Nat} (h : n < xs.length) : xs.take (n + 1) = xs.take n ++ [xs[n]] := by
 rw [List.take_succ_eq_append_getElem h]

end Go.Proofs.YtlhajfepcggjaaaGreatDoor.P

set_option linter.unusedVariables false
set_option linter.unusedSimpArgs false
namespace Go.Proofs.YtlhajfepcggjaaaGreatDoor.B
open Go.RowKit Go.Lib

theorem infoByte : (Tryz.prog.info? 5).map (fun i => (i.zero, i.size, i.bytes)) = some (some (.int .u8 0), 1, 1) := by kernel_rfl
theorem sizeBuilder : (Tryz.prog.info? 50).map (·.size) = some 2 := by kernel_rfl
theorem liesBuilder : liesAt Tryz.prog Tryz.prog.depth 50 (2 / Tryz.prog.cellsOf 50) 0 50 1 = true := by kernel_rfl

set_option maxHeartbeats 1000000 in
set_option maxRecDepth 100000 in
theorem copyCheck_used (b : Nat) (w : World) (h0 : w.cell? ⟨b, 0, none⟩ = some (.pointer (some ⟨b, 0, none⟩))) :
  Calls Tryz.prog 37 #[.pointer (some ⟨b, 0, none⟩)] w fun e w' => e = .returned (.tuple #[]) ∧ w' = w := by
 obtain ⟨j, hj, _⟩ := Option.map_eq_some_iff.1 sizeBuilder
 have hne := fun w : World => Lib.run_neq_ptr_same (P := Tryz.prog) w ⟨b, 0, none⟩ Tryz.underlying47 hj
 go_enter Tryz.func37, Tryz.ntmps37
 go_wp2
 go_end0
 exact ⟨rfl, rfl⟩

set_option maxHeartbeats 1000000 in
set_option maxRecDepth 100000 in
theorem copyCheck_fresh (b : Nat) (w : World) (h0 : w.cell? ⟨b, 0, none⟩ = some (.pointer none)) (hsh : w.shape? b = some (50, 2)) (hfz : w.frozen? ⟨b, 0, none⟩ = false) :
  Calls Tryz.prog 37 #[.pointer (some ⟨b, 0, none⟩)] w fun e w' => e = .returned (.tuple #[]) ∧ w' = w.setCell ⟨b, 0, none⟩ (.pointer (some ⟨b, 0, none⟩)) := by
 obtain ⟨j, hj, hjs⟩ := Option.map_eq_some_iff.1 sizeBuilder
 have hne := fun w : World => Lib.run_neq_ptr_same (P := Tryz.prog) w ⟨b, 0, none⟩ Tryz.underlying47 hj
 go_enter Tryz.func37, Tryz.ntmps37
 go_wp2
 rw [Lib.run_to_unsafe w ⟨b, 0, none⟩ Tryz.underlying47 Tryz.underlying94 hj (by rw [hjs]; decide) hsh (Nat.zero_lt_succ 1)]
 simp only [Result.andThen]
 rw [Oper.upon_value]
 go_wp2
 rw [run_callFunc_extern Tryz.func57 (by kernel_rfl) (by kernel_rfl) (by kernel_rfl) (e := Extern.AbiNoEscape.same) (by kernel_rfl)]
 rw [Lib.run_noEscape]
 simp only [Result.andThen]
 rw [Oper.upon_value]
 go_wp2
 rw [Lib.run_from_unsafe w ⟨b, 0, none⟩ Tryz.underlying94 Tryz.underlying47 hj hsh liesBuilder]
 simp only [Result.andThen]
 rw [Oper.upon_value]
 go_wp2
 go_end0
 exact ⟨rfl, rfl⟩

theorem copyCheck (B b : Nat) (bs : List Value) (w : World) (h : Lib.IsBuilder 50 5 B b bs w) :
  Calls Tryz.prog 37 #[.pointer (some ⟨b, 0, none⟩)] w fun e w' => e = .returned (.tuple #[]) ∧ (Lib.BuilderAt 50 5 B b (.pointer (some ⟨b, 0, none⟩)) bs w' ∧ Below B w w' ∧ Lib.OthersKept 5 (some b) w w') := by
 rcases h with h | h
 ·refine (copyCheck_fresh b w h.cell0 h.shape h.frozen0).mono ?_
  rintro e w' ⟨rfl, rfl⟩
  exact ⟨rfl, h.used _, (Below.refl B w).setCell (p := ⟨b, 0, none⟩) h.1 _, (Lib.OthersKept.refl 5 (some b) w).setCell _ rfl _⟩
 ·refine (copyCheck_used b w h.cell0).mono ?_
  rintro e w' ⟨rfl, rfl⟩
  exact ⟨rfl, h, Below.refl B _, Lib.OthersKept.refl 5 (some b) _⟩

set_option maxHeartbeats 2000000 in
set_option maxRecDepth 100000 in
theorem writeString (B b : Nat) (bs : List Value) (s : ByteArray) (w : World) (h : Lib.IsBuilder 50 5 B b bs w) (hlen : bs.length + s.size ≤ 140737488355328) (hBw : B ≤ w.heap.size) :
  Calls Tryz.prog 20 #[.pointer (some ⟨b, 0, none⟩), .string s] w fun e w' => e = .returned (.tuple #[.int .i64 s.size, .nilIface]) ∧ (Lib.BuilderAt 50 5 B b (.pointer (some ⟨b, 0, none⟩)) (bs ++ Lib.strCells s) w' ∧ Below B w w' ∧ Lib.OthersKept 5 (some b) w w') := by
 obtain ⟨i0, hi, hz0, hz1, hz2⟩ := info_parts infoByte
 go_enter Tryz.func20, Tryz.ntmps20
 go_wp2_with fail
 refine (copyCheck B b bs _ h).mono ?_
 rintro e w1 ⟨rfl, h1, hb1, hk1⟩
 obtain ⟨hB, v, hbk, hown, hne⟩ := h1
 have c0 : w1.cell? ⟨b, 0, none⟩ = some (.pointer (some ⟨b, 0, none⟩)) := by rw [Lib.cell_of_heap hbk]; rfl
 have c1 : w1.cell? ⟨b, 1, none⟩ = some v := by rw [Lib.cell_of_heap hbk]; rfl
 go_wp2_with (at_builtin; refine Lib.wpList_append_own_string _ rfl _ _ 48 9 rfl B 5 i0 Tryz.underlying48 Tryz.underlying9 hi hz0 hz1 hz2 _ _ _ rfl hown s rfl ?c3 ?c4 ?c5 ?_)
 case c3 => unfold maxLen; omega
 case c4 => omega
 case c5 => have := hb1.size; omega
 intro v' w2 hown' hgrow _
 have hlt : b < w1.heap.size := by
  rcases Nat.lt_or_ge b w1.heap.size with h' | h'
  ·exact h'
  ·simp [Array.getElem?_eq_none h'] at hbk
 have hb2 : w2.heap[b]? = some (.cells #[.pointer (some ⟨b, 0, none⟩), v] 50 (0, 0)) := by
  rw [hgrow.block b hlt (fun e => hne e.symm)]
  exact hbk
 have d0 : w2.cell? ⟨b, 0, none⟩ = some (.pointer (some ⟨b, 0, none⟩)) := by rw [Lib.cell_of_heap hb2]; rfl
 have d1 : w2.cell? ⟨b, 1, none⟩ = some v := by rw [Lib.cell_of_heap hb2]; rfl
 have f1 : w2.frozen? ⟨b, 1, none⟩ = false := Lib.frozen_of_heap hb2 1
 obtain ⟨ao, n', cap, rfl⟩ : ∃ ao n' cap, v' = .slice ao n' cap := by
  rcases hown'.2 with ⟨hv, _⟩ | ⟨g, cap, cur, hv, _⟩
  ·exact ⟨_, _, _, hv⟩
  ·exact ⟨_, _, _, hv⟩
 go_wp2
 go_ret2
 refine ⟨rfl, ?_, ?_, ?_⟩
 ·exact Lib.BuilderAt.put (T := 50) (e := 5) hB hb2 (bs' := bs ++ Lib.strCells s) (by simpa [Lib.strCells_length] using hown') (by decide)
 ·exact (hb1.grown hgrow (by have := hb1.size; omega) (fun k hk => (hown.lt k hk).1)).setCell (p := ⟨b, 1, none⟩) hB _
 ·refine (hk1.grown hgrow (fun g hg => ?_)).setCell _ rfl _
  rcases hown.2 with ⟨rfl, _⟩ | ⟨g', cap', cur', rfl, _, hgg, _⟩
  ·simp [Value.ownBlock] at hg
  ·simp only [Value.ownBlock, Option.some.injEq] at hg
   subst hg
   exact ⟨_, _, hgg⟩

/-- The builder that this call has laid itself, in the first block behind those of w0, holds xs; nothing below is touched. -/
structure Bld (w0 : World) (xs : List UInt8) (w : World) : Prop where
 b : Lib.IsBuilder 50 5 w0.heap.size w0.heap.size (Lib.byteCells xs) w
 below : Below w0.heap.size w0 w
theorem Bld.start (w0 : World) : Bld w0 [] (w0.alloc (.cells #[.pointer none, .slice none 0 0] 50)) :=
 ⟨Lib.fresh_isBuilder 50 5 w0, (Below.refl _ _).alloc (Nat.le_refl _) _⟩
theorem builderAt_on {p : Value} {bs : List Value} {w w' : World} {B b : Nat} (h : Lib.BuilderAt 50 5 B b p bs w) (hb : Below w.heap.size w w') : Lib.BuilderAt 50 5 B b p bs w' := by
 have hlt := h.lt
 obtain ⟨hB, v, hbk, hown, hne⟩ := h
 exact ⟨hB, v, (hb.block b hlt).trans hbk, hown.kept (row := none) ⟨hb.os, hb.tape, hb.output, hb.size, fun k hk _ => hb.block k hk⟩ (by cases v.ownBlock <;> simp), hne⟩
theorem Bld.on {w0 w w' : World} {xs : List UInt8} (h : Bld w0 xs w) (hb : Below w.heap.size w w') : Bld w0 xs w' :=
 ⟨h.b.imp (fun h => builderAt_on h hb) (fun h => builderAt_on h hb), h.below.trans (hb.mono h.below.size)⟩
theorem Bld.lt {w0 w : World} {xs : List UInt8} (h : Bld w0 xs w) : w0.heap.size < w.heap.size := h.b.elim (fun h => h.lt) (fun h => h.lt)
theorem Bld.alloc {w0 w : World} {xs : List UInt8} (h : Bld w0 xs w) (o : Obj) : Bld w0 xs (w.alloc o) := h.on ((Below.refl _ _).alloc (Nat.le_refl _) o)
theorem Bld.write {w0 w : World} {xs : List UInt8} (h : Bld w0 xs w) (s : ByteArray) (hlen : xs.length + s.size ≤ 140737488355328) :
  Calls Tryz.prog 20 #[.pointer (some ⟨w0.heap.size, 0, none⟩), .string s] w fun e w' => e = .returned (.tuple #[.int .i64 s.size, .nilIface]) ∧ Bld w0 (xs ++ s.data.toList) w' ∧ Lib.OthersKept 5 (some w0.heap.size) w w' := by
 refine (writeString _ _ _ s w h.b (by rw [Lib.byteCells_length]; exact hlen) h.below.size).mono ?_
 rintro e w' ⟨rfl, h1, h2, h3⟩
 refine ⟨rfl, ⟨Or.inr ?_, h.below.trans h2⟩, h3⟩
 rw [Lib.byteCells_append, ← Lib.strCells_eq]
 exact h1
theorem Bld.string {w0 w : World} {xs : List UInt8} (h : Bld w0 xs w) :
  Calls Tryz.prog 22 #[.pointer (some ⟨w0.heap.size, 0, none⟩)] w fun e w' => e = .returned (.string ⟨xs.toArray⟩) ∧ Below w0.heap.size w w' :=
 Tryz.Builder_String_any _ _ xs w h.b h.below.size

end Go.Proofs.YtlhajfepcggjaaaGreatDoor.B

set_option linter.unusedVariables false
namespace Go.Proofs.YtlhajfepcggjaaaGreatDoor.B
open Go.RowKit Go.Lib

/-- A store into another block of this call's, no row of bytes. -/
theorem Bld.setOther {w0 w : World} {xs : List UInt8} (h : Bld w0 xs w) {L : Nat} {cs : Array Value} {T : TypeId} {fz : Nat × Nat} (hL : w.heap[L]? = some (.cells cs T fz)) (hT : T ≠ 5) (hne : L ≠ w0.heap.size) (hle : w0.heap.size ≤ L) (j : Nat) (u : Value) : Bld w0 xs (w.setCell ⟨L, j, none⟩ u) := by
 have one : ∀ p, Lib.BuilderAt 50 5 w0.heap.size w0.heap.size p (Lib.byteCells xs) w → Lib.BuilderAt 50 5 w0.heap.size w0.heap.size p (Lib.byteCells xs) (w.setCell ⟨L, j, none⟩ u) := by
  rintro p ⟨hB, v, hbk, hown, hn⟩
  refine ⟨hB, v, (Below.heap_setCell _ _ _ _ (Ne.symm hne)).trans hbk, hown.kept (row := some L) ⟨rfl, rfl, rfl, by simp [World.setCell], fun k _ hk => Below.heap_setCell _ _ _ _ (fun e => hk (by simp [e]))⟩ (Or.inr (Lib.ownBlock_ne hown hL hT)), hn⟩
 exact ⟨h.b.imp (one _) (one _), h.below.setCell (p := ⟨L, j, none⟩) hle u⟩
end Go.Proofs.YtlhajfepcggjaaaGreatDoor.B

set_option linter.unusedVariables false
set_option linter.unusedSimpArgs false
namespace Go.Proofs.YtlhajfepcggjaaaGreatDoor.P
open Go.Proofs.YtlhajfepcggjaaaGreatDoor.R
open Go.RowKit Go.Proofs.YtlhajfepcggjaaaGreatDoorW.PrintWords Go.Proofs.YtlhajfepcggjaaaGreatDoorW.PrintLast Go.Proofs.YtlhajfepcggjaaaGreatDoorW.PrintMore
open Go.Proofs.YtlhajfepcggjaaaGreatDoor.B (Bld)

/-- A number's word; a word put: (the lines that are ended, the line under way). -/
def wordN (n : Int) : List UInt8 := 32 :: Lib.itoa n
def putR (s : List UInt8 × List UInt8) (n : Int) : List UInt8 × List UInt8 := if s.2.length + (wordN n).length > 78 then (s.1 ++ s.2 ++ [10], [118] ++ wordN n) else (s.1, s.2 ++ wordN n)
/-- The number of place i. -/
def numAt (m : List Bool) (i : Nat) : Int := if m.getD i false then (i : Int) + 1 else -(i : Int) - 1
def headS : List UInt8 := [115, 32, 83, 65, 84, 73, 83, 70, 73, 65, 66, 76, 69, 10]
/-- What stands after k places. -/
def sayS (m : List Bool) : Nat → List UInt8 × List UInt8
 | 0 => (headS, [118])
 | k + 1 => putR (sayS m k) (numAt m k)
def unsatT : List UInt8 := [115, 32, 85, 78, 83, 65, 84, 73, 83, 70, 73, 65, 66, 76, 69, 10]
def saysT (sat : Bool) (m : List Bool) : List UInt8 := if sat then (putR (sayS m m.length) 0).1 ++ (putR (sayS m m.length) 0).2 ++ [10] else unsatT
theorem wordN_length {n : Int} (h0 : -9223372036854775808 ≤ n) (h1 : n ≤ 9223372036854775807) : (wordN n).length ≤ 22 := by
 have := Lib.itoa_length_le n h0 h1
 simp only [wordN, List.length_cons]; omega
theorem numAt_range (m : List Bool) (i : Nat) (hi : i ≤ 1048576) : -9223372036854775808 ≤ numAt m i ∧ numAt m i ≤ 9223372036854775807 := by
 unfold numAt; split <;> omega
theorem putR_length (s : List UInt8 × List UInt8) {n : Int} (h0 : -9223372036854775808 ≤ n) (h1 : n ≤ 9223372036854775807) (h2 : s.2.length ≤ 100) : (putR s n).1.length + (putR s n).2.length ≤ s.1.length + s.2.length + 24 ∧ (putR s n).2.length ≤ 100 := by
 have := wordN_length h0 h1
 unfold putR
 split
 ·simp only [List.length_append, List.length_cons, List.length_nil]; omega
 ·simp only [List.length_append]; omega
theorem sayS_length (m : List Bool) (k : Nat) (hk : k ≤ 1048577) : (sayS m k).1.length + (sayS m k).2.length ≤ 15 + 24 * k ∧ (sayS m k).2.length ≤ 100 := by
 induction k with
 | zero => simp [sayS, headS]
 | succ k ih =>
  have h := ih (by omega)
  have hr := numAt_range m k (by omega)
  have := putR_length (sayS m k) hr.1 hr.2 h.2
  simp only [sayS]; omega

/-- What depot/dimacs.WriteAnswer comes to. -/
def dimacs_WriteAnswer.f (a0 : Bool) (l1 : List Bool) : Option ByteArray := if l1.length ≤ 1048576 then some ⟨(saysT a0 l1).toArray⟩ else none

/-- The builder holds both, and the counter the second one's length. -/
structure Put (w0 : World) (L : Nat) (s : List UInt8 × List UInt8) (w : World) : Prop where
 b : Bld w0 (s.1 ++ s.2) w
 l : w.heap[L]? = some (.cells #[.int .i64 (s.2.length : Int)] 3 (0, 0))
 ne : L ≠ w0.heap.size
 le : w0.heap.size ≤ L
theorem Put.lt {w0 w : World} {L : Nat} {s : List UInt8 × List UInt8} (h : Put w0 L s w) : L < w.heap.size := (Array.getElem?_eq_some_iff.1 h.l).1

set_option maxHeartbeats 8000000 in
set_option maxRecDepth 100000 in
theorem put_walk (w0 : World) (L : Nat) (s : List UInt8 × List UInt8) (n : Int) (w : World) (hP : Put w0 L s w) (hE : Env w) (h0 : -9223372036854775808 ≤ n) (h1 : n ≤ 9223372036854775807) (hs : s.1.length + s.2.length ≤ 140000000000000) (hs2 : s.2.length ≤ 100) :
  Calls Tryz.prog 27 #[.int .i64 n, .pointer (some ⟨L, 0, none⟩), .pointer (some ⟨w0.heap.size, 0, none⟩)] w fun e w' => e = .returned (.tuple #[]) ∧ Put w0 L (putR s n) w' := by
 have HP := Aside0.mk hP
 have HE := Aside0.mk hE
 clear hP hE
 have hxl := Lib.itoa_length_le n h0 h1
 go_enter Tryz.func27, Tryz.ntmps27
 go_wp2_with fail
 refine (strconv_Itoa_21.calls n _ _ HE.out (by unfold strconv_Itoa_21.f; exact if_pos (by omega))).mono ?_
 rintro e w1 ⟨rfl, hb1⟩
 have hl1 : w1.heap[L]? = some (.cells #[.int .i64 (s.2.length : Int)] 3 (0, 0)) := (hb1.block L HP.out.lt).trans HP.out.l
 have HP1 := Aside0.mk (HP.out.b.on hb1)
 have HL1 := Aside0.mk hl1
 clear hb1
 have c1 : w1.cell? ⟨L, 0, none⟩ = some (.int .i64 (s.2.length : Int)) := by rw [Lib.cell_of_heap hl1]; rfl
 clear hl1
 have e78 : wrap64 ((s.2.length : Int) + ((Lib.itoa n).length + 1 : Nat)) = ((s.2.length + ((Lib.itoa n).length + 1) : Nat) : Int) := by rw [w64 (by omega) (by omega)]; omega
 have hle := HP.out.le
 by_cases hlong : s.2.length + ((Lib.itoa n).length + 1) > 78
 ·have hR : putR s n = (s.1 ++ s.2 ++ [10], [118] ++ wordN n) := by
   unfold putR
   rw [if_pos (by simp only [wordN, List.length_cons]; exact hlong)]
  go_wp2_with fail
  refine (Bld.write HP1.out _ (by rw [List.length_append]; show _ + 2 ≤ _; omega)).mono ?_
  rintro e w2 ⟨rfl, hb2, hk2⟩
  have hz2 : w2.heap[L]? = some (.cells #[.int .i64 (s.2.length : Int)] 3 (0, 0)) := hk2 L _ HL1.out (fun e => HP.out.ne (Option.some.inj e)) (by intro c fz h; cases h)
  have d2 : w2.cell? ⟨L, 0, none⟩ = some (.int .i64 (s.2.length : Int)) := by rw [Lib.cell_of_heap hz2]; rfl
  have f2 : w2.frozen? ⟨L, 0, none⟩ = false := Lib.frozen_of_heap hz2 0
  go_wp2_with fail
  have hz2b : (w2.setCell ⟨L, 0, none⟩ (.int .i64 1)).heap[L]? = some (.cells #[.int .i64 1] 3 (0, 0)) := by
   rw [setCell_eq_setRow _ _ _ _ _ _ _ hz2]; exact setRow_heap _ _ _ _ _ _ hz2
  refine (Bld.write (hb2.setOther hz2 (by decide) HP.out.ne hle 0 _) _ (by rw [show ∀ a b : ByteArray, (a ++ b).size = a.size + b.size from fun a b => ByteArray.size_append, List.length_append, List.length_append]; show _ + 2 + (1 + (Lib.itoa n).length) ≤ _; omega)).mono ?_
  rintro e w3 ⟨rfl, hb3, hk3⟩
  have hz3 : w3.heap[L]? = some (.cells #[.int .i64 1] 3 (0, 0)) := hk3 L _ hz2b (fun e => HP.out.ne (Option.some.inj e)) (by intro c fz h; cases h)
  have d3 : w3.cell? ⟨L, 0, none⟩ = some (.int .i64 1) := by rw [Lib.cell_of_heap hz3]; rfl
  have f3 : w3.frozen? ⟨L, 0, none⟩ = false := Lib.frozen_of_heap hz3 0
  go_wp2_with fail
  go_end0
  refine ⟨rfl, ?_⟩
  rw [hR]
  have eL : (1 : Int) + (1 + ((Lib.itoa n).length : Int)) = (([118] ++ wordN n).length : Int) := by simp only [wordN, List.length_append, List.length_cons, List.length_nil]; omega
  refine ⟨?_, ?_, HP.out.ne, hle⟩
  ·have hb4 := hb3.setOther hz3 (by decide) HP.out.ne hle 0 (.int .i64 (1 + (1 + ((Lib.itoa n).length : Int))))
   have eB : s.1 ++ s.2 ++ (⟨#[10, 118]⟩ : ByteArray).data.toList ++ ((⟨#[32]⟩ : ByteArray) ++ ⟨(Lib.itoa n).toArray⟩).data.toList = (s.1 ++ s.2 ++ [10]) ++ ([118] ++ wordN n) := by simp [wordN]
   rw [← eB]
   exact hb4
  ·rw [setCell_eq_setRow _ _ _ _ _ _ _ hz3, eL]
   exact setRow_heap _ _ _ _ _ _ hz3
 ·have hR : putR s n = (s.1, s.2 ++ wordN n) := by
   unfold putR
   rw [if_neg (by simp only [wordN, List.length_cons]; exact hlong)]
  go_wp2_with fail
  refine (Bld.write HP1.out _ (by rw [show ∀ a b : ByteArray, (a ++ b).size = a.size + b.size from fun a b => ByteArray.size_append, List.length_append]; show _ + (1 + (Lib.itoa n).length) ≤ _; omega)).mono ?_
  rintro e w3 ⟨rfl, hb3, hk3⟩
  have hz3 : w3.heap[L]? = some (.cells #[.int .i64 (s.2.length : Int)] 3 (0, 0)) := hk3 L _ HL1.out (fun e => HP.out.ne (Option.some.inj e)) (by intro c fz h; cases h)
  have d3 : w3.cell? ⟨L, 0, none⟩ = some (.int .i64 (s.2.length : Int)) := by rw [Lib.cell_of_heap hz3]; rfl
  have f3 : w3.frozen? ⟨L, 0, none⟩ = false := Lib.frozen_of_heap hz3 0
  go_wp2_with fail
  go_end0
  refine ⟨rfl, ?_⟩
  rw [hR]
  have eL : ((s.2.length : Int) : Int) + (1 + ((Lib.itoa n).length : Int)) = ((s.2 ++ wordN n).length : Int) := by simp only [wordN, List.length_append, List.length_cons]; omega
  refine ⟨?_, ?_, HP.out.ne, hle⟩
  ·have hb4 := hb3.setOther hz3 (by decide) HP.out.ne hle 0 (.int .i64 ((s.2.length : Int) + (1 + ((Lib.itoa n).length : Int))))
   have eB : s.1 ++ s.2 ++ ((⟨#[32]⟩ : ByteArray) ++ ⟨(Lib.itoa n).toArray⟩).data.toList = s.1 ++ (s.2 ++ wordN n) := by simp [wordN]
   rw [← eB]
   exact hb4
  ·rw [setCell_eq_setRow _ _ _ _ _ _ _ hz3, eL]
   exact setRow_heap _ _ _ _ _ _ hz3

set_option maxHeartbeats 8000000 in
set_option maxRecDepth 100000 in
theorem says_walk (A0 : Option Addr) (c0 : Nat) (l0 : List Bool) (r : ByteArray) (w : World) (hr0 : Kd.C Kd.bool w A0 l0.length l0) (hc0 : l0.length ≤ c0) (hE : Env w) (hn : l0.length ≤ 1048576) (hr : ⟨(saysT true l0).toArray⟩ = r) :
  Calls Tryz.prog 11 #[.bool true, .slice A0 l0.length c0] w fun e w' => e = .returned (.string r) ∧ Below w.heap.size w w' := by
 have HR := Aside0.mk hr0
 have HC := Aside0.mk hc0
 have HE := Aside0.mk hE
 have HRR := Aside0.mk hr
 clear hr0 hc0 hE hr
 have hmf : ∀ (fn : Fn) (first cap : Array Value) (w : World), (Instr.makeFunc fn first cap).run Tryz.prog w = .ok (.func fn first cap) w := fun _ _ _ _ => rfl
 go_enter Tryz.func11, Tryz.ntmps11
 go_wp2_with fail
 refine (Bld.write (Bld.start w) _ (by show 0 + 15 ≤ _; omega)).mono ?_
 rintro e w1 ⟨rfl, hb1, hk1⟩
 have HB1 := Aside0.mk hb1
 clear hb1 hk1
 go_wp2_with fail
 have hlt1 : w.heap.size < w1.heap.size := HB1.out.lt
 have HS := Aside0.mk (show Put w w1.heap.size (sayS l0 0) (w1.alloc (.cells #[.int .i64 1] 3)) from ⟨HB1.out.alloc _, heap_alloc_new w1 _, by omega, by omega⟩)
 go_loopw [16] (fun i wr => ∃ k : Nat, k ≤ l0.length ∧ i = .int .i64 k ∧ Aside0 (Put w w1.heap.size (sayS l0 k) wr)) (fun i _ => l0.length - (intOf i).toNat)
 case atStart => exact ⟨0, Nat.zero_le _, rfl, HS⟩
 case round =>
  obtain ⟨k, hk, rfl, hB⟩ := hrel
  have hsl := sayS_length l0 k (by omega)
  by_cases hlt : k < l0.length
  ·obtain ⟨ad, rfl, hx⟩ := Kd.at_bool HR.out (k : Int) (by omega) (by omega)
   replace hx := (hB.out.b.below.cell (World.block_lt_of_cell? w _ hx)).trans hx
   rw [rdOf_nat hlt] at hx
   simp only [Int.toNat_natCast] at hx
   cases hv : l0[k] with
   | true =>
    rw [hv] at hx
    go_wp2_with fail
    refine (put_walk w w1.heap.size (sayS l0 k) ((k : Int) + 1) _ hB.out (HE.out.below hB.out.b.below) (by omega) (by omega) (by omega) hsl.2).mono ?_
    rintro e w3 ⟨rfl, hP3⟩
    have hB3 := Aside0.mk hP3
    clear hP3
    go_wp2_with fail
    go_roundw
    case rel =>
     have eN : numAt l0 k = (k : Int) + 1 := by
      unfold numAt
      rw [List.getD_eq_getElem?_getD, List.getElem?_eq_getElem hlt, Option.getD_some, hv]
      rfl
     exact ⟨k + 1, by omega, by go_num, ⟨by rw [sayS, eN]; exact hB3.out⟩⟩
    case measure => simp [intOf]; omega
   | false =>
    rw [hv] at hx
    go_wp2_with fail
    refine (put_walk w w1.heap.size (sayS l0 k) (-(k : Int) - 1) _ hB.out (HE.out.below hB.out.b.below) (by omega) (by omega) (by omega) hsl.2).mono ?_
    rintro e w3 ⟨rfl, hP3⟩
    have hB3 := Aside0.mk hP3
    clear hP3
    go_wp2_with fail
    go_roundw
    case rel =>
     have eN : numAt l0 k = -(k : Int) - 1 := by
      unfold numAt
      rw [List.getD_eq_getElem?_getD, List.getElem?_eq_getElem hlt, Option.getD_some, hv]
      rfl
     exact ⟨k + 1, by omega, by go_num, ⟨by rw [sayS, eN]; exact hB3.out⟩⟩
    case measure => simp [intOf]; omega
  ·obtain rfl : k = l0.length := by omega
   go_wp2_with fail
   refine (put_walk w w1.heap.size (sayS l0 l0.length) 0 _ hB.out (HE.out.below hB.out.b.below) (by omega) (by omega) (by omega) hsl.2).mono ?_
   rintro e w3 ⟨rfl, hP3⟩
   have hB3 := Aside0.mk hP3
   clear hP3
   have hpl := putR_length (sayS l0 l0.length) (n := 0) (by omega) (by omega) hsl.2
   go_wp2_with fail
   refine (Bld.write hB3.out.b _ (by rw [List.length_append]; show _ + 1 ≤ _; omega)).mono ?_
   rintro e w4 ⟨rfl, hb4, hk4⟩
   have hB4 := Aside0.mk hb4
   clear hb4 hk4
   go_wp2_with fail
   refine (Bld.string hB4.out).mono ?_
   rintro e w5 ⟨rfl, hb5⟩
   go_wp2_with fail
   go_ret
   have eT : saysT true l0 = (putR (sayS l0 l0.length) 0).1 ++ ((putR (sayS l0 l0.length) 0).2 ++ [10]) := by simp [saysT, List.append_assoc]
   rw [← HRR.out, eT]
   exact ⟨rfl, hB4.out.below.trans hb5⟩

theorem dimacs_WriteAnswer.calls (a0 : Bool) (A1 : Option Addr) (c1 : Nat) (l1 : List Bool) (r : ByteArray) (w : World) (hr1 : Kd.C Kd.bool w A1 l1.length l1) (hc1 : l1.length ≤ c1) (hE : Env w) (h : dimacs_WriteAnswer.f a0 l1 = some r) :
  Calls Tryz.prog 11 #[.bool a0, .slice A1 l1.length c1] w fun e w' => e = .returned (.string r) ∧ Below w.heap.size w w' := by
 unfold dimacs_WriteAnswer.f at h
 by_cases hh : l1.length ≤ 1048576
 ·rw [if_pos hh] at h
  have h' := Option.some.inj h
  cases a0 with
  | true => exact says_walk A1 c1 l1 r w hr1 hc1 hE hh h'
  | false =>
   obtain rfl := h'
   go_enter Tryz.func11, Tryz.ntmps11
   go_wp2_with fail
   go_ret
   exact ⟨rfl, Below.refl _ _⟩
 ·rw [if_neg hh] at h
  cases h
end Go.Proofs.YtlhajfepcggjaaaGreatDoor.P

set_option linter.unusedVariables false
set_option linter.unusedSimpArgs false
namespace Go.Proofs.YtlhajfepcggjaaaGreatDoor.P
open Go.Proofs.YtlhajfepcggjaaaGreatDoor.R
open Go.RowKit Go.Proofs.YtlhajfepcggjaaaGreatDoorW.PrintWords Go.Proofs.YtlhajfepcggjaaaGreatDoorW.PrintLast Go.Proofs.YtlhajfepcggjaaaGreatDoorW.PrintMore Go.Proofs.YtlhajfepcggjaaaGreatDoor.P

theorem copyInts_l0 (l : List Int) (hl : l.length < 17592186044416) (d : Nat) : ∀ (k i : Nat), i ≤ l.length → l.length - i = d → d < k → depotref00_CopyInts.l0 k l (l.take i) (i : Int) = some l := by
 induction d with
 | zero =>
  intro k i h0 hd hk
  obtain ⟨k, rfl⟩ := succ_of hk
  rw [depotref00_CopyInts.l0, if_neg (by omega), List.take_of_length_le (by omega)]
 | succ d ih =>
  intro k i h0 hd hk
  obtain ⟨k, rfl⟩ := succ_of hk
  rw [depotref00_CopyInts.l0, if_pos (by omega), if_pos (by omega), if_pos (by rw [List.length_take]; omega), rd_nat (by omega), ← take_succ' (by omega), w64 (by omega) (by omega)]
  exact ih k (i + 1) (by omega) (by omega) (by omega)
theorem copyInts_is (l : List Int) (hl : l.length < 17592186044416) (k : Nat) (hk : l.length < k) : depotref00_CopyInts.f k l = some l := by
 unfold depotref00_CopyInts.f
 exact copyInts_l0 l hl l.length k 0 (by omega) (by omega) hk
/-- Is it a literal? -/
def litOk (x : Int) : Bool := decide (x ≠ 0 ∧ -1048576 ≤ x ∧ x ≤ 1048576)
theorem formed_is (x : Int) : lits_Formed.f x = some (litOk x) := by
 unfold lits_Formed.f litOk
 by_cases h : x = 0
 ·rw [if_pos h]; simp [h]
 ·rw [if_neg h]
  by_cases h1 : x ≥ -1048576
  ·rw [if_pos h1]; congr 1; rw [decide_eq_decide]; omega
  ·rw [if_neg h1]; congr 1; symm; rw [decide_eq_false_iff_not]; omega
theorem refFormed_is (x : Int) : depotref01_Formed.f x = some (litOk x) := by
 unfold depotref01_Formed.f litOk
 by_cases h : x ≥ 1
 ·rw [if_pos h]
  by_cases h1 : x ≤ 1048576
  ·rw [if_pos h1]; congr 1; symm; rw [decide_eq_true_eq]; omega
  ·rw [if_neg h1, if_pos (by omega)]; congr 1; rw [decide_eq_decide]; omega
 ·rw [if_neg h]
  by_cases h1 : x ≥ -1048576
  ·rw [if_pos h1]; congr 1; rw [decide_eq_decide]; omega
  ·rw [if_neg h1]; congr 1; symm; rw [decide_eq_false_iff_not]; omega
theorem sound_l0 (l : List Int) (hl : l.length < 17592186044416) (d : Nat) : ∀ (k i : Nat), i ≤ l.length → l.length - i = d → d < k → lits_Sound.l0 k l (l.length : Int) (i : Int) = some ((l.drop i).all litOk) := by
 induction d with
 | zero =>
  intro k i h0 hd hk
  obtain ⟨k, rfl⟩ := succ_of hk
  rw [lits_Sound.l0, if_neg (by omega), List.drop_of_length_le (by omega)]
  rfl
 | succ d ih =>
  intro k i h0 hd hk
  obtain ⟨k, rfl⟩ := succ_of hk
  rw [lits_Sound.l0, if_pos (by omega), if_pos (by omega), if_pos (by omega), rd_nat (by omega), formed_is, List.drop_eq_getElem_cons (by omega), List.all_cons]
  simp only [Option.bind_some]
  cases h : litOk (l[i]'(by omega)) with
  | false => simp
  | true =>
   rw [if_pos rfl, w64 (by omega) (by omega)]
   simpa using ih k (i + 1) (by omega) (by omega) (by omega)
theorem sound_is (l : List Int) (hl : l.length < 17592186044416) (k : Nat) (hk : l.length < k) : lits_Sound.f k l = some (l.all litOk) := by
 unfold lits_Sound.f
 exact sound_l0 l hl l.length k 0 (by omega) (by omega) hk
theorem refSound_l0 (l : List Int) (hl : l.length < 17592186044416) (d : Nat) : ∀ (k i : Nat), i ≤ l.length → l.length - i = d → d < k → depotref01_Sound.l0 k l (i : Int) = some ((l.drop i).all litOk) := by
 induction d with
 | zero =>
  intro k i h0 hd hk
  obtain ⟨k, rfl⟩ := succ_of hk
  rw [depotref01_Sound.l0, if_neg (by omega), List.drop_of_length_le (by omega)]
  rfl
 | succ d ih =>
  intro k i h0 hd hk
  obtain ⟨k, rfl⟩ := succ_of hk
  rw [depotref01_Sound.l0, if_pos (by omega), if_pos (by omega), rd_nat (by omega), refFormed_is, List.drop_eq_getElem_cons (by omega), List.all_cons]
  simp only [Option.bind_some]
  cases h : litOk (l[i]'(by omega)) with
  | false => simp
  | true =>
   rw [if_pos rfl, w64 (by omega) (by omega)]
   simpa using ih k (i + 1) (by omega) (by omega) (by omega)
theorem refSound_is (l : List Int) (hl : l.length < 17592186044416) (k : Nat) (hk : l.length < k) : depotref01_Sound.f k l = some (l.all litOk) := by
 unfold depotref01_Sound.f
 exact refSound_l0 l hl l.length k 0 (by omega) (by omega) hk

end Go.Proofs.YtlhajfepcggjaaaGreatDoor.P

set_option linter.unusedVariables false
set_option linter.unusedSimpArgs false
namespace Go.Proofs.YtlhajfepcggjaaaGreatDoor.P
open Go.Proofs.YtlhajfepcggjaaaGreatDoor.R
open Go.RowKit Go.Proofs.YtlhajfepcggjaaaGreatDoorW.PrintWords Go.Proofs.YtlhajfepcggjaaaGreatDoorW.PrintLast Go.Proofs.YtlhajfepcggjaaaGreatDoorW.PrintMore

theorem rdL_nat {xs : List (List Int)} {n : Nat} (h : n < xs.length) : rd_L3 xs (n : Int) = xs[n] := by
 unfold rd_L3
 rw [Int.toNat_natCast, List.getD_eq_getElem?_getD, List.getElem?_eq_getElem h]
 rfl
theorem litOk_range {x : Int} (h : litOk x = true) : -1048576 ≤ x ∧ x ≤ 1048576 := by simp [litOk] at h; omega
def inV (v x : Int) : Bool := decide (x ≤ v ∧ -x ≤ v)
def clauseOk (v : Int) (c : List Int) : Bool := c.all litOk && c.all (inV v)
def formOk (v : Int) (cs : List (List Int)) : Bool := decide (0 ≤ v ∧ v ≤ 1048576) && cs.all (clauseOk v)
theorem var_ok {x : Int} (h : litOk x = true) : lits_Var.f x = some ((x.natAbs : Nat) : Int) := by
 have hr := litOk_range h
 unfold lits_Var.f
 rw [formed_is]
 simp only [Option.bind_some]
 rw [if_pos h]
 by_cases h0 : x < 0
 ·rw [if_pos h0, w64 (by omega) (by omega)]; congr 1; omega
 ·rw [if_neg h0]; congr 1; omega
theorem within_l0 (v : Int) (l : List Int) (hs : l.all litOk = true) (hl : l.length < 17592186044416) (d : Nat) : ∀ (k i : Nat), i ≤ l.length → l.length - i = d → d < k → cnf_within.l0 k v l (l.length : Int) (i : Int) = some ((l.drop i).all (inV v)) := by
 induction d with
 | zero =>
  intro k i h0 hd hk
  obtain ⟨k, rfl⟩ := succ_of hk
  rw [cnf_within.l0, if_neg (by omega), List.drop_of_length_le (by omega)]
  rfl
 | succ d ih =>
  intro k i h0 hd hk
  obtain ⟨k, rfl⟩ := succ_of hk
  have hi : litOk (l[i]'(by omega)) = true := List.all_eq_true.1 hs _ (List.getElem_mem (by omega))
  rw [cnf_within.l0, if_pos (by omega), if_pos (by omega), if_pos (by omega), rd_nat (by omega), var_ok hi, List.drop_eq_getElem_cons (by omega), List.all_cons]
  simp only [Option.bind_some]
  cases h : inV v (l[i]'(by omega)) with
  | false =>
   rw [if_pos]
   ·simp
   ·simp [inV] at h; omega
  | true =>
   rw [if_neg (by simp [inV] at h; omega), w64 (by omega) (by omega)]
   simpa using ih k (i + 1) (by omega) (by omega) (by omega)
theorem within_is (v : Int) (l : List Int) (hl : l.length < 17592186044416) (k : Nat) (hk : l.length < k) : cnf_within.f k l v = some (clauseOk v l) := by
 unfold cnf_within.f clauseOk
 rw [sound_is l hl k hk]
 simp only [Option.bind_some]
 cases h : l.all litOk with
 | false => simp
 | true =>
  rw [if_pos rfl]
  have := within_l0 v l h hl l.length k 0 (by omega) (by omega) hk
  simpa using this
theorem refWithin_l0 (v : Int) (l : List Int) (hs : l.all litOk = true) (hl : l.length < 17592186044416) (d : Nat) : ∀ (k i : Nat), i ≤ l.length → l.length - i = d → d < k → depotref02_within.l0 k l v (i : Int) = some ((l.drop i).all (inV v)) := by
 induction d with
 | zero =>
  intro k i h0 hd hk
  obtain ⟨k, rfl⟩ := succ_of hk
  rw [depotref02_within.l0, if_neg (by omega), List.drop_of_length_le (by omega)]
  rfl
 | succ d ih =>
  intro k i h0 hd hk
  obtain ⟨k, rfl⟩ := succ_of hk
  have hi : litOk (l[i]'(by omega)) = true := List.all_eq_true.1 hs _ (List.getElem_mem (by omega))
  have hr := litOk_range hi
  rw [depotref02_within.l0, if_pos (by omega), if_pos (by omega), rd_nat (by omega), List.drop_eq_getElem_cons (by omega), List.all_cons, w64 (x := -(l[i]'(by omega))) (by omega) (by omega)]
  cases h : inV v (l[i]'(by omega)) with
  | false =>
   simp only [inV, decide_eq_false_iff_not] at h
   by_cases h1 : l[i]'(by omega) > v
   ·rw [if_pos h1]; simp
   ·rw [if_neg h1, if_pos (by omega)]; simp
  | true =>
   simp only [inV, decide_eq_true_eq] at h
   rw [if_neg (by omega), if_neg (by omega), w64 (by omega) (by omega)]
   simpa using ih k (i + 1) (by omega) (by omega) (by omega)
theorem refWithin_is (v : Int) (l : List Int) (hl : l.length < 17592186044416) (k : Nat) (hk : l.length < k) : depotref02_within.f k l v = some (clauseOk v l) := by
 unfold depotref02_within.f clauseOk
 rw [refSound_is l hl k hk]
 simp only [Option.bind_some]
 cases h : l.all litOk with
 | false => simp
 | true =>
  rw [if_pos rfl]
  have := refWithin_l0 v l h hl l.length k 0 (by omega) (by omega) hk
  simpa using this
theorem formed_l0 (v : Int) (cs : List (List Int)) (m : Nat) (hm : ∀ c ∈ cs, c.length ≤ m) (hm2 : m < 17592186044416) (hl : cs.length < 4398046511104) (d : Nat) : ∀ (k i : Nat), i ≤ cs.length → cs.length - i = d → d + m + 1 < k → cnf_Formed.l0 k cs (cs.length : Int) (i : Int) v cs = some ((cs.drop i).all (clauseOk v)) := by
 induction d with
 | zero =>
  intro k i h0 hd hk
  obtain ⟨k, rfl⟩ := succ_of hk
  rw [cnf_Formed.l0, if_neg (by omega), List.drop_of_length_le (by omega)]
  rfl
 | succ d ih =>
  intro k i h0 hd hk
  obtain ⟨k, rfl⟩ := succ_of hk
  have hc := hm (cs[i]'(by omega)) (List.getElem_mem (by omega))
  rw [cnf_Formed.l0, if_pos (by omega), if_pos (by omega), if_pos (by omega), rdL_nat (by omega), within_is v _ (by omega) _ (by omega), List.drop_eq_getElem_cons (by omega), List.all_cons]
  simp only [Option.bind_some]
  cases h : clauseOk v (cs[i]'(by omega)) with
  | false => simp
  | true =>
   rw [if_pos rfl, w64 (by omega) (by omega)]
   simpa using ih k (i + 1) (by omega) (by omega) (by omega)
theorem cnfFormed_is (v : Int) (cs : List (List Int)) (m : Nat) (hm : ∀ c ∈ cs, c.length ≤ m) (hm2 : m < 17592186044416) (hl : cs.length < 4398046511104) (k : Nat) (hk : cs.length + m + 2 < k) : cnf_Formed.f k v cs = some (formOk v cs) := by
 obtain ⟨k, rfl⟩ := succ_of hk
 unfold cnf_Formed.f formOk
 by_cases h0 : v < 0
 ·rw [if_pos h0, cnf_Formed.j0, if_pos rfl, decide_eq_false (by omega)]; rfl
 ·rw [if_neg h0, cnf_Formed.j0]
  by_cases h1 : v > 1048576
  ·rw [decide_eq_true h1, if_pos rfl, decide_eq_false (by omega)]; rfl
  ·rw [decide_eq_false h1, if_neg (by decide), decide_eq_true (by omega)]
   have := formed_l0 v cs m hm hm2 hl cs.length k 0 (by omega) (by omega) (by omega)
   simpa using this
theorem refFormed_l0 (v : Int) (cs : List (List Int)) (m : Nat) (hm : ∀ c ∈ cs, c.length ≤ m) (hm2 : m < 17592186044416) (hl : cs.length < 4398046511104) (d : Nat) : ∀ (k i : Nat), i ≤ cs.length → cs.length - i = d → d + m + 1 < k → depotref02_Formed.l0 k (i : Int) v cs = some ((cs.drop i).all (clauseOk v)) := by
 induction d with
 | zero =>
  intro k i h0 hd hk
  obtain ⟨k, rfl⟩ := succ_of hk
  rw [depotref02_Formed.l0, if_neg (by omega), List.drop_of_length_le (by omega)]
  rfl
 | succ d ih =>
  intro k i h0 hd hk
  obtain ⟨k, rfl⟩ := succ_of hk
  have hc := hm (cs[i]'(by omega)) (List.getElem_mem (by omega))
  rw [depotref02_Formed.l0, if_pos (by omega), if_pos (by omega), rdL_nat (by omega), refWithin_is v _ (by omega) _ (by omega), List.drop_eq_getElem_cons (by omega), List.all_cons]
  simp only [Option.bind_some]
  cases h : clauseOk v (cs[i]'(by omega)) with
  | false => simp
  | true =>
   rw [if_pos rfl, w64 (by omega) (by omega)]
   simpa using ih k (i + 1) (by omega) (by omega) (by omega)
theorem refFormedF_is (v : Int) (cs : List (List Int)) (m : Nat) (hm : ∀ c ∈ cs, c.length ≤ m) (hm2 : m < 17592186044416) (hl : cs.length < 4398046511104) (k : Nat) (hk : cs.length + m + 2 < k) : depotref02_Formed.f k v cs = some (formOk v cs) := by
 obtain ⟨k, rfl⟩ := succ_of hk
 unfold depotref02_Formed.f formOk
 by_cases h0 : v < 0
 ·rw [if_pos h0, depotref02_Formed.j0, if_pos rfl, decide_eq_false (by omega)]; rfl
 ·rw [if_neg h0, depotref02_Formed.j0]
  by_cases h1 : v > 1048576
  ·rw [decide_eq_true h1, if_pos rfl, decide_eq_false (by omega)]; rfl
  ·rw [decide_eq_false h1, if_neg (by decide), decide_eq_true (by omega)]
   have := refFormed_l0 v cs m hm hm2 hl cs.length k 0 (by omega) (by omega) (by omega)
   simpa using this
theorem copyClauses_l0 (l : List (List Int)) (m : Nat) (hm : ∀ c ∈ l, c.length ≤ m) (hm2 : m < 17592186044416) (hl : l.length < 4398046511104) (d : Nat) : ∀ (k i : Nat), i ≤ l.length → l.length - i = d → d + m + 1 < k → depotref00_CopyClauses.l0 k l (l.take i) (i : Int) = some l := by
 induction d with
 | zero =>
  intro k i h0 hd hk
  obtain ⟨k, rfl⟩ := succ_of hk
  rw [depotref00_CopyClauses.l0, if_neg (by omega), List.take_of_length_le (by omega)]
 | succ d ih =>
  intro k i h0 hd hk
  obtain ⟨k, rfl⟩ := succ_of hk
  have hs := hm l[i] (List.getElem_mem (by omega))
  rw [depotref00_CopyClauses.l0, if_pos (by omega), if_pos (by omega), rdL_nat (by omega), copyInts_is _ (by omega) _ (by omega)]
  simp only [Option.bind_some]
  rw [if_pos (by rw [List.length_take]; omega), ← take_succ' (by omega), w64 (by omega) (by omega)]
  exact ih k (i + 1) (by omega) (by omega) (by omega)
theorem copyFormula_is (v : Int) (l : List (List Int)) (m : Nat) (hm : ∀ c ∈ l, c.length ≤ m) (hm2 : m < 17592186044416) (hl : l.length < 4398046511104) (k : Nat) (hk : l.length + m + 1 < k) : depotref00_CopyFormula.f k v l = some (v, l) := by
 unfold depotref00_CopyFormula.f depotref00_CopyClauses.f
 have := copyClauses_l0 l m hm hm2 hl l.length k 0 (by omega) (by omega) hk
 rw [show (0 : Int) = ((0 : Nat) : Int) from rfl, show ([] : List (List Int)) = l.take 0 from rfl, this]
 rfl
end Go.Proofs.YtlhajfepcggjaaaGreatDoor.P

set_option linter.unusedVariables false
set_option linter.unusedSimpArgs false
namespace Go.Proofs.YtlhajfepcggjaaaGreatDoor.P
open Go.Proofs.YtlhajfepcggjaaaGreatDoor.R
open Go.RowKit Go.Proofs.YtlhajfepcggjaaaGreatDoorW.PrintWords Go.Proofs.YtlhajfepcggjaaaGreatDoorW.PrintLast Go.Proofs.YtlhajfepcggjaaaGreatDoorW.PrintMore
open Go.Proofs.YtlhajfepcggjaaaGreatDoor.B (Bld)

/-- The text of literals, of a clause, of clauses, of a formula. -/
def wordsT (l : List Int) : List UInt8 := l.flatMap fun x => Lib.itoa x ++ [32]
def clauseT (c : List Int) : List UInt8 := wordsT c ++ [48, 10]
def clausesT (l : List (List Int)) : List UInt8 := l.flatMap clauseT
def headF (v : Int) (n : Nat) : List UInt8 := [112, 32, 99, 110, 102, 32] ++ Lib.itoa v ++ [32] ++ Lib.itoa n ++ [10]
def formT (v : Int) (l : List (List Int)) : List UInt8 := headF v l.length ++ clausesT l
theorem wordsT_snoc (l : List Int) (x : Int) : wordsT (l ++ [x]) = wordsT l ++ (Lib.itoa x ++ [32]) := by unfold wordsT; rw [List.flatMap_append]; simp
theorem clausesT_snoc (l : List (List Int)) (s : List Int) : clausesT (l ++ [s]) = clausesT l ++ clauseT s := by unfold clausesT; rw [List.flatMap_append]; simp
theorem wordsT_length (l : List Int) (h : l.all litOk = true) : (wordsT l).length ≤ 22 * l.length := by
 induction l with
 | nil => simp [wordsT]
 | cons x l ih =>
  rw [List.all_cons, Bool.and_eq_true] at h
  have h1 := litOk_range h.1
  have h2 := Lib.itoa_length_le x (by omega) (by omega)
  have h3 := ih h.2
  simp only [wordsT, List.flatMap_cons, List.length_append, List.length_cons, List.length_nil] at h3 ⊢
  omega
theorem clausesT_length (l : List (List Int)) (m : Nat) (hm : ∀ s ∈ l, s.length ≤ m) (h : ∀ s ∈ l, s.all litOk = true) : (clausesT l).length ≤ l.length * (22 * m + 2) := by
 induction l with
 | nil => simp [clausesT]
 | cons s l ih =>
  have h1 := ih (fun s hs => hm s (List.mem_cons_of_mem _ hs)) (fun s hs => h s (List.mem_cons_of_mem _ hs))
  have h2 := hm s List.mem_cons_self
  have h3 := wordsT_length s (h s List.mem_cons_self)
  simp only [clausesT, List.flatMap_cons, List.length_append, List.length_cons, clauseT, List.length_nil] at h1 ⊢
  rw [Nat.add_mul]
  omega
theorem headF_length (v : Int) (n : Nat) (h0 : 0 ≤ v) (h1 : v ≤ 1048576) (hn : n ≤ 1048576) : (headF v n).length ≤ 50 := by
 have a := Lib.itoa_length_le v (by omega) (by omega)
 have b := Lib.itoa_length_le (n : Int) (by omega) (by omega)
 simp only [headF, List.length_append, List.length_cons, List.length_nil]
 omega
theorem clauseOk_lits {v : Int} {c : List Int} (h : clauseOk v c = true) : c.all litOk = true := (Bool.and_eq_true _ _ ▸ h : _ ∧ _).1
theorem formOk_parts {v : Int} {l : List (List Int)} (h : formOk v l = true) : 0 ≤ v ∧ v ≤ 1048576 ∧ ∀ c ∈ l, c.all litOk = true := by
 unfold formOk at h
 rw [Bool.and_eq_true, decide_eq_true_eq] at h
 exact ⟨h.1.1, h.1.2, fun c hc => clauseOk_lits (List.all_eq_true.1 h.2 c hc)⟩
def dimR (v : Int) (l : List (List Int)) : ByteArray × Int := if formOk v l then (⟨(formT v l).toArray⟩, 0) else (⟨#[]⟩, 1)
/-- What depot/dimacs.Write comes to. -/
def dimacs_Write.f (v : Int) (l : List (List Int)) : Option (ByteArray × Int) := if l.length ≤ 1048576 ∧ ∀ s ∈ l, s.length ≤ 1048576 then some (dimR v l) else none

set_option maxHeartbeats 8000000 in
set_option maxRecDepth 100000 in
theorem write_walk (v : Int) (A0 : Option Addr) (c0 : Nat) (l0 : List (List Int)) (r : ByteArray × Int) (w : World) (hr0 : Kd.C (Kd.slice 3 (Kd.int .i64)) w A0 l0.length l0) (hc0 : l0.length ≤ c0) (hE : Env w) (hn : l0.length ≤ 1048576) (hm : ∀ s ∈ l0, s.length ≤ 1048576) (hr : dimR v l0 = r) :
  Calls Tryz.prog 5 #[.agg #[.int .i64 v, .slice A0 l0.length c0]] w fun e w' => e = .returned (.tuple #[.string r.1, .int .i64 r.2]) ∧ Below w.heap.size w w' := by
 have hu28 := Tryz.underlying24
 have HR := Aside0.mk hr0
 have HC := Aside0.mk hc0
 have HE := Aside0.mk hE
 have HM := Aside0.mk hm
 have HRR := Aside0.mk hr
 clear hr0 hc0 hE hm hr
 go_enter Tryz.func5, Tryz.ntmps5
 go_wp2_with fail
 refine (cnf_Formed.calls (l0.length + 1048576 + 3) v A0 c0 l0 (formOk v l0) _ (by (with_reducible repeat (first | apply Kd.C_alloc | apply Kd.C_drewN | apply Kd.C_drew)); exact HR.out) HC.out (cnfFormed_is v l0 1048576 HM.out (by omega) (by omega) _ (by omega))).mono ?_
 rintro e w1 ⟨rfl, hb1⟩
 have HB1 := Aside0.mk hb1
 clear hb1
 have hbw : Below w.heap.size w w1 := by
  have := (Below.refl w.heap.size w).alloc (Nat.le_refl _) (.cells #[.int .i64 v, .slice A0 l0.length c0] 24)
  exact this.trans (HB1.out.mono (by simp))
 cases hok : formOk v l0 with
 | false =>
  go_wp2_with fail
  go_ret2
  have hR : dimR v l0 = (⟨#[]⟩, 1) := by
   unfold dimR
   rw [if_neg (by rw [hok]; decide)]
  rw [← HRR.out, hR]
  exact ⟨rfl, hbw⟩
 | true =>
  obtain ⟨hv0, hv1, hlits⟩ := formOk_parts hok
  go_wp2_with fail
  have f0 : w1.cell? ⟨w.heap.size, 0, none⟩ = some (.int .i64 v) := by rw [HB1.out.cell (by simp)]; simp [World.cell?_alloc_new]
  have f1 : w1.cell? ⟨w.heap.size, 1, none⟩ = some (.slice A0 l0.length c0) := by rw [HB1.out.cell (by simp)]; simp [World.cell?_alloc_new]
  have hlt1 : w.heap.size < w1.heap.size := World.block_lt_of_cell? w1 _ f0
  have hxv := Lib.itoa_length_le v (by omega) (by omega)
  have hxn := Lib.itoa_length_le (l0.length : Int) (by omega) (by omega)
  have HS := Aside0.mk (Bld.start w1)
  have HN := Aside0.mk (show Tryz.prog.cellsOf 49 = 2 by kernel_rfl)
  have HEn := HE.out.below hbw
  have kp : ∀ W, Below w1.heap.size w1 W → W.cell? ⟨w.heap.size, 0, none⟩ = some (.int .i64 v) ∧ W.cell? ⟨w.heap.size, 1, none⟩ = some (.slice A0 l0.length c0) := fun W h => ⟨(h.cell hlt1).trans f0, (h.cell hlt1).trans f1⟩
  have KP := Aside0.mk kp
  have HEN := Aside0.mk HEn
  clear kp HEn
  have hq1 : ¬ (9223372036854775807 < 6 + (Lib.itoa v).length) := by omega
  have hq2 : ¬ (9223372036854775807 < 6 + (Lib.itoa v).length + 1) := by omega
  have hq3 : ¬ (9223372036854775807 < 6 + (Lib.itoa v).length + 1 + (Lib.itoa (l0.length : Int)).length) := by omega
  have hq4 : ¬ (9223372036854775807 < 6 + (Lib.itoa v).length + 1 + (Lib.itoa (l0.length : Int)).length + 1) := by omega
  go_cut [23] (fun v23 wx => Aside0 (Bld w1 (headF v l0.length) wx))
  case first =>
   go_region_held3 (fun w' => w'.cell? ⟨w.heap.size, 0, none⟩ = some (.int .i64 v) ∧ w'.cell? ⟨w.heap.size, 1, none⟩ = some (.slice A0 l0.length c0))
    (first | exact KP.out _ HZ.out.below | exact KP.out _ HY.out.below | exact KP.out _ HX.out.below | exact KP.out _ ((HS.out.on ((Below.refl _ _).drew)).below))
    (first
     | (go_at_call 21; (with_reducible refine (strconv_Itoa_21.calls v _ _ (HEN.out.below (HS.out.on ((Below.refl _ _).drew)).below) (by unfold strconv_Itoa_21.f; exact if_pos (by omega))).mono ?_); rintro e w2 ⟨rfl, hb2⟩; have HX := Aside0.mk ((HS.out.on ((Below.refl _ _).drew)).on hb2); clear hb2)
     | (go_at_call 21; (with_reducible refine (strconv_Itoa_21.calls (l0.length : Int) _ _ (HEN.out.below HX.out.below) (by unfold strconv_Itoa_21.f; exact if_pos (by omega))).mono ?_); rintro e w3 ⟨rfl, hb3⟩; have HY := Aside0.mk (HX.out.on hb3); clear hb3)
     | (go_at_call 20; refine (Bld.write HY.out _ (by simp only [ByteArray.size_append]; show 0 + (6 + (Lib.itoa v).length + 1 + (Lib.itoa (l0.length : Int)).length + 1) ≤ _; omega)).mono ?_; rintro e w4 ⟨rfl, hb4, hk4⟩; have HZ := Aside0.mk hb4; clear hb4 hk4))
   all_goals (go_wp2_with fail; go_meet; exact ⟨by simpa [headF] using HZ.out⟩)
  case rest =>
   clear HS
   have HS := hcut
   have g1 := (KP.out wc HS.out.below).2
   go_wp2_with fail
   clear g1
   go_loopw [27] (fun i wr => ∃ k : Nat, k ≤ l0.length ∧ i = .int .i64 k ∧ Aside0 (Bld w1 (headF v l0.length ++ clausesT (l0.take k)) wr)) (fun i _ => l0.length - (intOf i).toNat)
   case atStart => exact ⟨0, Nat.zero_le _, rfl, ⟨by simpa [clausesT] using HS.out⟩⟩
   case round =>
    obtain ⟨k, hk, rfl, hB⟩ := hrel
    have hbw2 := Aside0.mk (hbw.trans (hB.out.below.mono hbw.size))
    by_cases hlt : k < l0.length
    ·obtain ⟨ad, A1, c1, rfl, hx1, hl1, hC1⟩ := at_L3 HR.out (k : Int) (by omega) (by omega)
     replace hx1 := (hbw2.out.cell (World.block_lt_of_cell? w _ hx1)).trans hx1
     simp only [Int.toNat_natCast] at hx1
     have HL1 := Aside0.mk hl1
     have HC1 := Aside0.mk hC1
     clear hl1 hC1
     rw [rdL_nat hlt] at hx1 HL1 HC1
     have hsm := HM.out l0[k] (List.getElem_mem hlt)
     have hs := hlits l0[k] (List.getElem_mem hlt)
     have hsz := clausesT_length (l0.take k) 1048576 (fun s h => HM.out s (List.mem_of_mem_take h)) (fun s h => hlits s (List.mem_of_mem_take h))
     have hbig : (clausesT (l0.take k)).length ≤ 1048576 * (22 * 1048576 + 2) := Nat.le_trans hsz (Nat.mul_le_mul_right _ (by rw [List.length_take]; omega))
     have hhd := headF_length v l0.length hv0 hv1 hn
     clear hsz
     go_wp2_with fail
     go_loopw [33] (fun j w3 => ∃ m : Nat, m ≤ l0[k].length ∧ j = .int .i64 m ∧ Aside0 (Bld w1 (headF v l0.length ++ clausesT (l0.take k) ++ wordsT (l0[k].take m)) w3)) (fun j _ => l0[k].length - (intOf j).toNat)
     case atStart => exact ⟨0, Nat.zero_le _, rfl, ⟨by simpa [wordsT] using hB.out⟩⟩
     case round =>
      obtain ⟨m, hmle, rfl, hB3⟩ := hrel
      have hwl := wordsT_length (l0[k].take m) (List.all_eq_true.2 fun x hx => List.all_eq_true.1 hs x (List.mem_of_mem_take hx))
      rw [List.length_take] at hwl
      have hlen3 : (headF v l0.length ++ clausesT (l0.take k) ++ wordsT (l0[k].take m)).length ≤ 1048576 * (22 * 1048576 + 2) + 50 + 22 * 1048576 := by
       rw [List.length_append, List.length_append]; omega
      have hbw3 := Aside0.mk (hbw.trans (hB3.out.below.mono hbw.size))
      by_cases hmt : m < l0[k].length
      ·obtain ⟨ad2, e2, hy⟩ := Kd.at_int (Kd.C_below HC1.out hbw3.out) (m : Int) (by omega) (by omega)
       subst e2
       rw [rd_nat hmt] at hy
       simp only [Int.toNat_natCast] at hy
       have hxr := litOk_range (List.all_eq_true.1 hs l0[k][m] (List.getElem_mem hmt))
       have hxl := Lib.itoa_length_le l0[k][m] (by omega) (by omega)
       go_wp2_with fail
       refine (strconv_Itoa_21.calls l0[k][m] _ _ (HE.out.below hbw3.out) (by unfold strconv_Itoa_21.f; exact if_pos (by omega))).mono ?_
       rintro e w5 ⟨rfl, hb5⟩
       have hB5 := Aside0.mk (hB3.out.on hb5)
       go_wp2_with fail
       refine (Bld.write hB5.out _ (by rw [show ∀ a b : ByteArray, (a ++ b).size = a.size + b.size from fun a b => ByteArray.size_append]; show _ + ((Lib.itoa l0[k][m]).length + 1) ≤ _; omega)).mono ?_
       rintro e w6 ⟨rfl, hb6, hk6⟩
       go_wp2_with fail
       go_roundw
       case rel => exact ⟨m + 1, by omega, by go_num, ⟨by rw [take_succ' hmt, wordsT_snoc, ← List.append_assoc]; simpa using hb6⟩⟩
       case measure => simp [intOf]; omega
      ·obtain rfl : m = l0[k].length := by omega
       rw [List.take_length] at hB3
       go_wp2_with fail
       refine (Bld.write hB3.out _ (by rw [List.take_length] at hlen3; show _ + 2 ≤ _; omega)).mono ?_
       rintro e w6 ⟨rfl, hb6, hk6⟩
       go_wp2_with fail
       go_roundw
       case rel =>
        refine ⟨k + 1, by omega, by go_num, ⟨?_⟩⟩
        rw [take_succ' hlt, clausesT_snoc, clauseT, ← List.append_assoc, ← List.append_assoc]
        exact hb6
       case measure => simp [intOf]; omega
    ·obtain rfl : k = l0.length := by omega
     rw [List.take_length] at hB
     go_wp2_with fail
     refine (Bld.string hB.out).mono ?_
     rintro e w' ⟨rfl, hb'⟩
     go_wp2_with fail
     go_ret2
     have hR : dimR v l0 = (⟨(formT v l0).toArray⟩, 0) := by
      unfold dimR
      rw [if_pos hok]
     rw [← HRR.out, hR]
     exact ⟨rfl, hbw2.out.trans (hb'.mono hbw.size)⟩

theorem dimacs_Write.calls (a0_0 : Int) (A0_1 : Option Addr) (c0_1 : Nat) (l0_1 : List (List Int)) (r1 : ByteArray) (r2 : Int) (w : World) (hr0_1 : Kd.C (Kd.slice 3 (Kd.int .i64)) w A0_1 l0_1.length l0_1) (hc0_1 : l0_1.length ≤ c0_1) (hE : Env w) (h : dimacs_Write.f a0_0 l0_1 = some (r1, r2)) :
  Calls Tryz.prog 5 #[.agg #[.int .i64 a0_0, .slice A0_1 l0_1.length c0_1]] w fun e w' => e = .returned (.tuple #[.string r1, .int .i64 r2]) ∧ Below w.heap.size w w' := by
 unfold dimacs_Write.f at h
 by_cases hh : l0_1.length ≤ 1048576 ∧ ∀ s ∈ l0_1, s.length ≤ 1048576
 ·rw [if_pos hh] at h
  exact write_walk a0_0 A0_1 c0_1 l0_1 (r1, r2) w hr0_1 hc0_1 hE hh.1 hh.2 (Option.some.inj h)
 ·rw [if_neg hh] at h
  cases h
end Go.Proofs.YtlhajfepcggjaaaGreatDoor.P

set_option linter.unusedVariables false
set_option linter.unusedSimpArgs false
namespace Go.Proofs.YtlhajfepcggjaaaGreatDoor.M
open Go.Proofs.YtlhajfepcggjaaaGreatDoor.R
open Go.RowKit Go.Lib Go.Proofs.YtlhajfepcggjaaaGreatDoorW.PrintWords

/-- The slice value v holds the cells cs in a block of the call's own (from 'base' on), none of whose cells is frozen. -/
def Owns (w : World) (base : Nat) (e : TypeId) (v : Value) (cs : List Value) : Prop :=
 ∃ g cap cur fz, v = .slice (some ⟨g, 0, none⟩) cs.length cap ∧ base ≤ g ∧ w.heap[g]? = some (.cells cur e fz) ∧ (∀ j, j < cur.size → ¬ (fz.1 ≤ j ∧ j < fz.2)) ∧ cs.length ≤ cap ∧ cap ≤ maxLen ∧ cur.size = cap ∧ cur.toList.take cs.length = cs

theorem store_at (P : Program) (g o : Nat) (t : TypeId) (fz : Nat × Nat) (vs : List Value) : ∀ (i : Nat) (cur : Array Value) (w : World), w.heap[g]? = some (.cells cur t fz) → (∀ j, j < cur.size → ¬ (fz.1 ≤ j ∧ j < fz.2)) → o + i + vs.length ≤ cur.size → (∀ v ∈ vs, v.oneCell' = true) →
  (storeCells ⟨g, o, none⟩ vs i).run P w = .ok () (w.setRow g (cur.toList.take (o + i) ++ vs ++ cur.toList.drop (o + i + vs.length)).toArray) := by
 induction vs with
 | nil =>
  intro i cur w hg _ _ _
  simp only [storeCells, List.append_nil, List.length_nil, Nat.add_zero, List.take_append_drop, Array.toArray_toList]
  rw [setRow_self w g cur t fz hg]
  rfl
 | cons v rest ih =>
  intro i cur w hg hfz hl h1
  simp only [List.length_cons] at hl
  have hi : o + i < cur.size := by omega
  have hadd : (⟨g, o, none⟩ : Addr).add i = ⟨g, o + i, none⟩ := by unfold Addr.add; split <;> simp_all
  have hcell : w.cell? ⟨g, o + i, none⟩ = some cur[o + i] := by simp [World.cell?, hg, hi]
  have hfro : w.frozen? ⟨g, o + i, none⟩ = false := by
   have := hfz (o + i) hi
   obtain ⟨lo, hi'⟩ := fz
   simp only [World.frozen?, hg, Bool.and_eq_false_iff, decide_eq_false_iff_not]
   simp only at this
   omega
  have hst : (store ((⟨g, o, none⟩ : Addr).add i) v).run P w = .ok () (w.setRow g (cur.setIfInBounds (o + i) v)) := by
   rw [hadd, run_store P w _ v _ (h1 v (by simp)), hcell]
   simp [hfro, setCell_eq_setRow w g (o + i) cur t fz v hg]
  have ih' := ih (i + 1) (cur.setIfInBounds (o + i) v) (w.setRow g (cur.setIfInBounds (o + i) v)) (setRow_heap w g cur _ t _ hg) (by simpa using hfz) (by simp; omega) (fun x hx => h1 x (by simp [hx]))
  simp only [storeCells, Sem.run_bind, hst, Result.andThen_ok, ih', setRow_setRow]
  congr 3
  have e := list_seg_step cur.toList (o + i) v rest (by simp; omega)
  simpa [Array.toList_setIfInBounds, Nat.add_assoc] using e

section
variable {P : Program} {w : World} {base : Nat} {e : TypeId} {v : Value} {cs : List Value}

theorem Owns.on {w' : World} (h : Owns w base e v cs) (hb : Below w.heap.size w w') : Owns w' base e v cs := by
 obtain ⟨g, cap, cur, fz, hv, hbg, hg, rest⟩ := h
 exact ⟨g, cap, cur, fz, hv, hbg, (hb.block g (Array.getElem?_eq_some_iff.1 hg).1).trans hg, rest⟩

theorem Owns.cells (h : Owns w base e v cs) : ∃ g cap, v = .slice (some ⟨g, 0, none⟩) cs.length cap ∧ base ≤ g ∧ g < w.heap.size ∧ cs.length ≤ cap ∧ cap ≤ maxLen ∧ ∀ j u, cs[j]? = some u → w.cell? ((⟨g, 0, none⟩ : Addr).add j) = some u := by
 obtain ⟨g, cap, cur, fz, rfl, hbg, hg, hfz, hnc, hcm, hcs, htake⟩ := h
 refine ⟨g, cap, rfl, hbg, (Array.getElem?_eq_some_iff.1 hg).1, hnc, hcm, fun j u hu => ?_⟩
 have hadd : (⟨g, 0, none⟩ : Addr).add j = ⟨g, j, none⟩ := by unfold Addr.add; split <;> simp_all
 rw [hadd, cell_of_row w g j cur e fz hg]
 rw [← htake, List.getElem?_take] at hu
 split at hu
 ·simpa using hu
 ·cases hu

/-- A new block that growth has laid. -/
theorem Owns.laid (w : World) (news : List Value) (n old : Nat) (hn : n = (cs ++ news).length) (hbase : base ≤ w.heap.size) (h63 : n ≤ maxLen) :
  Owns (w.drew.alloc (.cells (cs.toArray ++ news.toArray ++ Builtin.zeroCells (Value.int .u8 0).cells (grownCap w n old e - n)) e)) base e (.slice (some ⟨w.heap.size, 0, none⟩) n (grownCap w n old e)) (cs ++ news) := by
 have hge := grownCap_ge w n old e
 subst hn
 refine ⟨w.heap.size, _, _, (0, 0), rfl, hbase, heap_alloc_new w.drew _, fun j _ h => absurd h.2 (Nat.not_lt_zero _), hge, grownCap_le_maxLen w _ old e h63, ?_, ?_⟩
 ·have hz1 : (Value.int IntKind.u8 0).cells.size = 1 := rfl
  simp only [Array.size_append, List.size_toArray, size_zeroCells, hz1, List.length_append] at hge ⊢
  omega
 ·simp only [Array.toList_append]
  exact List.take_left

theorem grownBy_laid (w : World) (o : Obj) (row : Option Nat) : w.grownBy (w.drew.alloc o) row := ⟨rfl, rfl, rfl, by simp, fun k hk _ => Go.Lib.alloc_old w.drew _ k hk⟩

/-- The room's arm: the row written in place. -/
theorem Owns.put {g cap : Nat} {cur : Array Value} {fz : Nat × Nat} (hbg : base ≤ g) (hg : w.heap[g]? = some (.cells cur e fz)) (hfz : ∀ j, j < cur.size → ¬ (fz.1 ≤ j ∧ j < fz.2)) (hcm : cap ≤ maxLen) (hcs : cur.size = cap) (htake : cur.toList.take cs.length = cs) (news : List Value) (hroom : cs.length + news.length ≤ cap) :
  Owns (w.setRow g (cur.toList.take cs.length ++ news ++ cur.toList.drop (cs.length + news.length)).toArray) base e (.slice (some ⟨g, 0, none⟩) (cs.length + news.length) cap) (cs ++ news) := by
 have hsz : (cur.toList.take cs.length ++ news ++ cur.toList.drop (cs.length + news.length)).toArray.size = cap := by
  simp only [List.size_toArray, List.length_append, List.length_take, List.length_drop, Array.length_toList]
  omega
 refine ⟨g, cap, _, fz, by rw [List.length_append], hbg, setRow_heap w g cur _ e _ hg, by rw [hsz, ← hcs]; exact hfz, by rw [List.length_append]; exact hroom, hcm, hsz, ?_⟩
 rw [htake]
 exact List.take_left

theorem run_string (t u ty : TypeId) (i : TypeInfo) (ht : P.underlying t = some (.slice e)) (hu : P.underlying u = some .string) (hi : P.info? e = some i) (hz : i.zero = some (.int .u8 0)) (hsize : i.size = 1) (hby : i.bytes = 1)
  (hown : Owns w base e v cs) (s : ByteArray) (hl : cs.length + s.size ≤ 140737488355328) (hbase : base ≤ w.heap.size) :
  ∃ v' w', (Builtin.append_ #[t, u] ty #[v, .string s]).run P w = .ok v' w' ∧ Owns w' base e v' (cs ++ strCells s) ∧ w.grownBy w' v.ownBlock := by
 obtain ⟨g0, cap0, hv0, _, _, _, _, holds⟩ := hown.cells
 obtain ⟨g, cap, cur, fz, rfl, hbg, hg, hfz, hnc, hcm, hcs, htake⟩ := hown
 injection hv0 with h1 h2 h3
 injection h1 with h1
 injection h1 with h1
 subst h1
 by_cases hroom : cs.length + s.size ≤ cap
 ·have hf := run_firstCells_string (P := P) w 1 s
  have hst := store_at P g cs.length e fz (strCells s) 0 cur w hg hfz (by rw [strCells_length]; omega) (strCells_oneCell s)
  simp only [Nat.add_zero, strCells_length] at hst
  have hp := Owns.put (w := w) (base := base) hbg hg hfz hcm hcs htake (strCells s) (by rw [strCells_length]; exact hroom)
  rw [strCells_length] at hp
  refine ⟨_, _, ?_, hp, ⟨rfl, rfl, rfl, by simp, fun k _ hk => setRow_other w g k _ (fun e => hk (by simp [Value.ownBlock, e]))⟩⟩
  simp [Builtin.append_, run_underlying ht, run_underlying hu, sizeOf, typeInfo, hi, hsize, Builtin.lenOf, hroom, hf, Addr.add_lit, hst]
 ·have hr := run_append_grow_string (P := P) w t u ty e i (.int .u8 0) ht hu hi hz ⟨g, 0, none⟩ cs.length cap cs (by rw [hsize]; simp) holds s (by omega) (by omega) (by rw [hby]; exact growslice_fits (by omega) (by omega))
  exact ⟨_, _, hr, Owns.laid w (strCells s) _ cap (by rw [List.length_append, strCells_length]) hbase (by unfold maxLen; omega), grownBy_laid w _ _⟩

theorem run_slice (t ty : TypeId) (i : TypeInfo) (ht : P.underlying t = some (.slice e)) (hi : P.info? e = some i) (hz : i.zero = some (.int .u8 0)) (hsize : i.size = 1) (hby : i.bytes = 1)
  (hown : Owns w base e v cs) (a : Addr) (m c : Nat) (news : List Value) (hm : news.length = m) (hnews : ∀ j u, news[j]? = some u → w.cell? (a.add j) = some u) (h1 : ∀ u ∈ news, u.oneCell' = true) (hl : cs.length + m ≤ 140737488355328) (hbase : base ≤ w.heap.size) :
  ∃ v' w', (Builtin.append_ #[t, t] ty #[v, .slice (some a) m c]).run P w = .ok v' w' ∧ Owns w' base e v' (cs ++ news) ∧ w.grownBy w' v.ownBlock := by
 obtain ⟨g0, cap0, hv0, _, _, _, _, holds⟩ := hown.cells
 obtain ⟨g, cap, cur, fz, rfl, hbg, hg, hfz, hnc, hcm, hcs, htake⟩ := hown
 injection hv0 with h1' h2 h3
 injection h1' with h1'
 injection h1' with h1'
 subst h1'
 subst hm
 by_cases hroom : cs.length + news.length ≤ cap
 ·have hf := run_firstCells_some (P := P) w 1 news.length a news.length c news (by simp) hnews
  have hst := store_at P g cs.length e fz news 0 cur w hg hfz (by omega) h1
  simp only [Nat.add_zero] at hst
  refine ⟨_, _, ?_, Owns.put (w := w) (base := base) hbg hg hfz hcm hcs htake news hroom, ⟨rfl, rfl, rfl, by simp, fun k _ hk => setRow_other w g k _ (fun e => hk (by simp [Value.ownBlock, e]))⟩⟩
  simp [Builtin.append_, run_underlying ht, sizeOf, typeInfo, hi, hsize, Builtin.lenOf, hroom, hf, Addr.add_lit, hst]
 ·have hr := run_append_grow (P := P) w t ty e i (.int .u8 0) ht hi hz ⟨g, 0, none⟩ cs.length cap cs (by rw [hsize]; simp) holds a news.length c news (by rw [hsize]; simp) hnews (by omega) (by omega) (by rw [hby]; exact growslice_fits (by omega) (by omega))
  exact ⟨_, _, hr, Owns.laid w news _ cap (by rw [List.length_append]) hbase (by unfold maxLen; omega), grownBy_laid w _ _⟩
end

/-- The bytes xs, held by the value v in a row of the call's own; nothing that stood in w0 is touched. -/
structure Row (e : TypeId) (w0 : World) (xs : List UInt8) (v : Value) (w : World) : Prop where
 own : Owns w w0.heap.size e v (byteCells xs)
 below : Below w0.heap.size w0 w

section
variable {P : Program} {e : TypeId} {w0 w : World} {xs : List UInt8} {v : Value}
theorem Row.on {w' : World} (h : Row e w0 xs v w) (hb : Below w.heap.size w w') : Row e w0 xs v w' := ⟨h.own.on hb, h.below.trans (hb.mono h.below.size)⟩
theorem Row.alloc (h : Row e w0 xs v w) (o : Obj) : Row e w0 xs v (w.alloc o) := h.on ((Below.refl _ _).alloc (Nat.le_refl _) o)
theorem Row.drew (h : Row e w0 xs v w) : Row e w0 xs v w.drew := h.on (Below.refl _ _).drew

/-- What []byte(s) leaves. -/
theorem Row.made (hb : Below w0.heap.size w0 w) (s : ByteArray) (hs : s.size ≤ 140737488355328) : Row e w0 s.data.toList (.slice (some ⟨w.heap.size, 0, none⟩) s.size (grownCap w s.size 0 e)) (bytesWorld w e s) := by
 refine ⟨?_, hb.trans ((bytesWorld_below w e s).mono hb.size)⟩
 have hge := grownCap_ge w s.size 0 e
 have hcl : (bytesCells w e s).size = grownCap w s.size 0 e := by
  have : s.data.size = s.size := rfl
  simp [bytesCells, this]; omega
 have hbl : (byteCells s.data.toList).length = s.size := by simp [byteCells]
 refine ⟨w.heap.size, _, _, _, by rw [hbl], hb.size, bytesWorld_at_new w e s, fun j hj h => by simp only at h; omega, by rw [hbl]; exact hge, grownCap_le_maxLen w _ 0 e (by unfold maxLen; omega), hcl, ?_⟩
 rw [hbl]
 have : (bytesCells w e s).toList = byteCells s.data.toList ++ List.replicate (grownCap w s.size 0 e - s.size) (.int .u8 0) := by simp [bytesCells, byteCells]
 rw [this, ← hbl]
 exact List.take_left

theorem Row.grown {w' : World} {v' : Value} {ys : List UInt8} (h : Row e w0 xs v w) (ho : Owns w' w0.heap.size e v' (byteCells ys)) (hg : w.grownBy w' v.ownBlock) : Row e w0 ys v' w' := by
 obtain ⟨g, cap, hv, hbg, _⟩ := h.own.cells
 exact ⟨ho, h.below.grown hg h.below.size (fun k hk => by subst hv; simp [Value.ownBlock] at hk; omega)⟩

/-- append(v, s...), s a string. -/
theorem Row.append_string {ops : Array Oper} {rest : List Oper} {o : Oper} {a : Act} {Q : Exit → Act → World → Prop} (h0 : Row e w0 xs v w) (hgd : o.guard = none) (sl x : Operand) (t u : TypeId)
  (ho : o.op = .call { callee := .builtin .append, args := #[sl, x], argTypes := #[t, u] })
  (ht : P.underlying t = some (.slice e)) (hu : P.underlying u = some .string) (hinfo : (P.info? e).map (fun i => (i.zero, i.size, i.bytes)) = some (some (.int .u8 0), 1, 1))
  (hs : a.eval sl = v) (s : ByteArray) (hx : a.eval x = .string s) (hl : xs.length + s.size ≤ 140737488355328)
  (h : ∀ v' w', Row e w0 (xs ++ s.data.toList) v' w' → w.grownBy w' v.ownBlock → wpList P ops Q rest (a.put o.dst v') w') : wpList P ops Q (o :: rest) a w := by
 refine wpList_plain hgd fun K hK => ?_
 obtain ⟨i, hi, hzz⟩ := Option.map_eq_some_iff.1 hinfo
 simp only [Prod.mk.injEq] at hzz
 obtain ⟨v', w', hr, h2, h3⟩ := run_string (P := P) t u o.type i ht hu hi hzz.1 hzz.2.1 hzz.2.2 h0.own s (by rw [byteCells_length]; exact hl) h0.below.size
 unfold Oper.wp execOp
 simp only [ho, resolve, invoke, builtin, Sem.run_bind, Sem.run_pure, Result.andThen_ok, List.map_toArray, List.map_cons, List.map_nil, hs, hx, hr]
 rw [strCells_eq, ← byteCells_append] at h2
 exact hK _ _ (h v' w' (h0.grown h2 h3) h3)

/-- append(v, b), the b laid in a row of one cell. -/
theorem Row.append_slice {ops : Array Oper} {rest : List Oper} {o : Oper} {a : Act} {Q : Exit → Act → World → Prop} (h0 : Row e w0 xs v w) (hgd : o.guard = none) (sl x : Operand) (t : TypeId)
  (ho : o.op = .call { callee := .builtin .append, args := #[sl, x], argTypes := #[t, t] })
  (ht : P.underlying t = some (.slice e)) (hinfo : (P.info? e).map (fun i => (i.zero, i.size, i.bytes)) = some (some (.int .u8 0), 1, 1))
  (hs : a.eval sl = v) (b : UInt8) (z : Int) (hz : z = (b.toNat : Int)) (ad : Addr) (c : Nat) (hx : a.eval x = .slice (some ad) 1 c) (hcell : w.cell? (ad.add 0) = some (.int .u8 z)) (hl : xs.length + 1 ≤ 140737488355328)
  (h : ∀ v' w', Row e w0 (xs ++ [b]) v' w' → w.grownBy w' v.ownBlock → wpList P ops Q rest (a.put o.dst v') w') : wpList P ops Q (o :: rest) a w := by
 refine wpList_plain hgd fun K hK => ?_
 obtain ⟨i, hi, hzz⟩ := Option.map_eq_some_iff.1 hinfo
 simp only [Prod.mk.injEq] at hzz
 obtain ⟨v', w', hr, h2, h3⟩ := run_slice (P := P) t o.type i ht hi hzz.1 hzz.2.1 hzz.2.2 h0.own ad 1 c [.int .u8 z] rfl
  (fun j u hj => by
   cases j with
   | zero => simp at hj; rw [← hj]; exact hcell
   | succ j => simp at hj) (fun u hu => by simp at hu; subst hu; rfl) (by rw [byteCells_length]; exact hl) h0.below.size
 unfold Oper.wp execOp
 simp only [ho, resolve, invoke, builtin, Sem.run_bind, Sem.run_pure, Result.andThen_ok, List.map_toArray, List.map_cons, List.map_nil, hs, hx, hr]
 have e1 : byteCells xs ++ [Value.int .u8 z] = byteCells (xs ++ [b]) := by rw [byteCells_append, hz]; rfl
 rw [e1] at h2
 exact hK _ _ (h v' w' (h0.grown h2 h3) h3)

/-- string(v). -/
theorem Row.string {src dst : TypeId} (h0 : Row e w0 xs v w) (hs : P.underlying src = some (.slice e)) (he : P.underlying e = some (.int .u8)) (hd : P.underlying dst = some .string) (hl : xs.length ≤ 140737488355328) :
  (convert src dst v).run P w = .ok (.string ⟨xs.toArray⟩) w := by
 obtain ⟨g, cap, hv, hbg, hgl, hnc, hcm, hc⟩ := h0.own.cells
 rw [hv, byteCells_length]
 have hR : ReadsInt w .u8 (some ⟨g, 0, none⟩) xs.length (xs.map fun b => (b.toNat : Int)) := by
  refine ⟨by simp, by omega, fun _ => ⟨_, rfl, fun j hj => ?_⟩⟩
  have hj' : j < xs.length := by simpa using hj
  have := hc j (.int .u8 (xs[j]'hj').toNat) (by simp [byteCells, hj'])
  simpa [List.getD_eq_getElem?_getD, hj'] using this
 rw [string_of_reads hs he hd hR]
 have : strOfNums (xs.map fun b => (b.toNat : Int)) = ⟨xs.toArray⟩ := by
  unfold strOfNums
  rw [List.map_map]
  congr 2
  conv => rhs; rw [← List.map_id xs]
  apply List.map_congr_left
  intro b _
  simp
 rw [this]
end
end Go.Proofs.YtlhajfepcggjaaaGreatDoor.M

set_option linter.unusedVariables false
set_option linter.unusedSimpArgs false
namespace Go.Proofs.YtlhajfepcggjaaaGreatDoor.P
open Go.Proofs.YtlhajfepcggjaaaGreatDoor.R
open Go.RowKit Go.Proofs.YtlhajfepcggjaaaGreatDoorW.PrintWords Go.Proofs.YtlhajfepcggjaaaGreatDoorW.PrintLast Go.Proofs.YtlhajfepcggjaaaGreatDoorW.PrintMore
open Go.Proofs.YtlhajfepcggjaaaGreatDoor.M (Row)

/-- The reference's numbers: those of the places, and 0 behind them. -/
def numR (m : List Bool) (k : Nat) : Int := if k < m.length then numAt m k else 0
def sayR (m : List Bool) : Nat → List UInt8 × List UInt8
 | 0 => (headS, [118])
 | k + 1 => putR (sayR m k) (numR m k)
theorem sayR_eq (m : List Bool) : ∀ k, k ≤ m.length → sayR m k = sayS m k
 | 0, _ => rfl
 | k + 1, h => by rw [sayR, sayS, sayR_eq m k (by omega), numR, if_pos (by omega)]
theorem sayR_last (m : List Bool) : sayR m (m.length + 1) = putR (sayS m m.length) 0 := by
 rw [sayR, sayR_eq m _ (Nat.le_refl _), numR, if_neg (by omega)]
theorem sayR_length (m : List Bool) (k : Nat) (hk : k ≤ 1048577) : (sayR m k).1.length + (sayR m k).2.length ≤ 15 + 24 * k ∧ (sayR m k).2.length ≤ 100 := by
 induction k with
 | zero => simp [sayR, headS]
 | succ k ih =>
  have h := ih (by omega)
  have hr : -9223372036854775808 ≤ numR m k ∧ numR m k ≤ 9223372036854775807 := by
   unfold numR
   split
   ·exact numAt_range m k (by omega)
   ·omega
  have := putR_length (sayR m k) hr.1 hr.2 h.2
  simp only [sayR]; omega
/-- What depot/depotref03.WriteAnswer comes to. -/
def depotref03_WriteAnswer.f (a0 : Bool) (l1 : List Bool) : Option ByteArray := if l1.length ≤ 1048576 then some ⟨(saysT a0 l1).toArray⟩ else none

set_option maxHeartbeats 8000000 in
set_option maxRecDepth 100000 in
theorem refSays_walk (A0 : Option Addr) (c0 : Nat) (l0 : List Bool) (r : ByteArray) (w : World) (hr0 : Kd.C Kd.bool w A0 l0.length l0) (hc0 : l0.length ≤ c0) (hE : Env w) (hn : l0.length ≤ 1048576) (hr : ⟨(saysT true l0).toArray⟩ = r) :
  Calls Tryz.prog 13 #[.bool true, .slice A0 l0.length c0] w fun e w' => e = .returned (.string r) ∧ Below w.heap.size w w' := by
 have HR := Aside0.mk hr0
 have HC := Aside0.mk hc0
 have HE := Aside0.mk hE
 have HRR := Aside0.mk hr
 clear hr0 hc0 hE hr
 go_enter Tryz.func13, Tryz.ntmps13
 go_wp2_with fail
 rw [Lib.run_convert_bytes_const w 48 5 _ 14 14 Tryz.underlying48 Tryz.underlying5]
 simp only [Result.andThen]
 rw [Oper.upon_value]
 go_wp2_with fail
 have HS := Aside0.mk (show Row 5 w headS (.slice (some ⟨w.heap.size, 0, none⟩) 14 14) (w.alloc (.cells (Lib.byteCells headS).toArray 5 (14, 15))) from ⟨⟨w.heap.size, 14, _, (14, 15), rfl, Nat.le_refl _, heap_alloc_new w _, fun j (hj : j < 14) (h : 14 ≤ j ∧ j < 15) => by omega, by decide, by decide, rfl, rfl⟩, (Below.refl _ _).alloc (Nat.le_refl _) _⟩)
 go_loopw [5, 6, 7] (fun s line i wr => ∃ k : Nat, k ≤ l0.length + 1 ∧ i = .int .i64 k ∧ line = .string ⟨(sayR l0 k).2.toArray⟩ ∧ Aside0 (Row 5 w (sayR l0 k).1 s wr)) (fun _ _ i _ => l0.length + 1 - (intOf i).toNat)
 case atStart => exact ⟨0, Nat.zero_le _, rfl, rfl, HS⟩
 case round =>
  clear HS
  obtain ⟨k, hk, rfl, rfl, hB⟩ := hrel
  have hsl := sayR_length l0 k (by omega)
  by_cases hlt : k < l0.length
  ·obtain ⟨ad, rfl, hx⟩ := Kd.at_bool HR.out (k : Int) (by omega) (by omega)
   replace hx := (hB.out.below.cell (World.block_lt_of_cell? w _ hx)).trans hx
   rw [rdOf_nat hlt] at hx
   simp only [Int.toNat_natCast] at hx
   cases hv : l0[k] with
   | true =>
    rw [hv] at hx
    have hxl := Lib.itoa_length_le ((k : Int) + 1) (by omega) (by omega)
    have hN : numR l0 k = (k : Int) + 1 := by
     unfold numR numAt
     rw [if_pos hlt, List.getD_eq_getElem?_getD, List.getElem?_eq_getElem hlt, Option.getD_some, hv]
     rfl
    go_wp2_with fail
    refine (strconv_Itoa_21.calls ((k : Int) + 1) _ _ (HE.out.below hB.out.below) (by unfold strconv_Itoa_21.f; exact if_pos (by omega))).mono ?_
    rintro e w3 ⟨rfl, hb3⟩
    have hB3 := Aside0.mk (hB.out.on hb3)
    clear hb3
    by_cases hlong : (sayR l0 k).2.length + ((Lib.itoa ((k : Int) + 1)).length + 1) > 78
    ·have hR : putR (sayR l0 k) ((k : Int) + 1) = ((sayR l0 k).1 ++ (sayR l0 k).2 ++ [10], [118] ++ wordN ((k : Int) + 1)) := by
      unfold putR
      rw [if_pos (by simp only [wordN, List.length_cons]; exact hlong)]
     go_wp2_with (first
      | (at_builtin; refine Row.append_string hB3.out rfl (.tmp 42) (.tmp 43) 48 9 rfl Tryz.underlying48 Tryz.underlying9 Go.Proofs.YtlhajfepcggjaaaGreatDoor.B.infoByte rfl _ rfl (by show _ + (sayR l0 k).2.length ≤ _; omega) ?_; intro v6 w6 hr6 hg6; have HR6 := Aside0.mk hr6; clear hr6 hg6)
      | (at_builtin; refine Row.append_slice (HR6.out.alloc _) rfl (.tmp 45) (.tmp 46) 48 rfl Tryz.underlying48 Go.Proofs.YtlhajfepcggjaaaGreatDoor.B.infoByte rfl 10 10 rfl ⟨w6.heap.size, 0, none⟩ 1 rfl (by simp [Addr.add, World.cell?_alloc_new]) (by rw [List.length_append]; show _ + (sayR l0 k).2.length + 1 ≤ _; omega) ?_; intro v7 w7 hr7 hg7; have HR7 := Aside0.mk hr7; clear hr7 hg7))
     go_roundw
     case rel =>
      refine ⟨k + 1, by omega, by go_num, ?_, ⟨?_⟩⟩
      ·rw [sayR, hN, hR]; simp only [wordN]; exact congrArg Value.string (by apply ByteArray.ext; simp)
      ·rw [sayR, hN, hR]; exact HR7.out
     case measure => simp [intOf]; omega
    ·have hR : putR (sayR l0 k) ((k : Int) + 1) = ((sayR l0 k).1, (sayR l0 k).2 ++ wordN ((k : Int) + 1)) := by
      unfold putR
      rw [if_neg (by simp only [wordN, List.length_cons]; exact hlong)]
     go_wp2_with fail
     go_roundw
     case rel =>
      refine ⟨k + 1, by omega, by go_num, ?_, ⟨?_⟩⟩
      ·rw [sayR, hN, hR]; simp only [wordN]; exact congrArg Value.string (by apply ByteArray.ext; simp)
      ·rw [sayR, hN, hR]; exact hB3.out
     case measure => simp [intOf]; omega
   | false =>
    rw [hv] at hx
    have hxl := Lib.itoa_length_le (-((k : Int) + 1)) (by omega) (by omega)
    have hN : numR l0 k = -((k : Int) + 1) := by
     unfold numR numAt
     rw [if_pos hlt, List.getD_eq_getElem?_getD, List.getElem?_eq_getElem hlt, Option.getD_some, hv]
     show -(k : Int) - 1 = _; omega
    go_wp2_with fail
    refine (strconv_Itoa_21.calls (-((k : Int) + 1)) _ _ (HE.out.below hB.out.below) (by unfold strconv_Itoa_21.f; exact if_pos (by omega))).mono ?_
    rintro e w3 ⟨rfl, hb3⟩
    have hB3 := Aside0.mk (hB.out.on hb3)
    clear hb3
    by_cases hlong : (sayR l0 k).2.length + ((Lib.itoa (-((k : Int) + 1))).length + 1) > 78
    ·have hR : putR (sayR l0 k) (-((k : Int) + 1)) = ((sayR l0 k).1 ++ (sayR l0 k).2 ++ [10], [118] ++ wordN (-((k : Int) + 1))) := by
      unfold putR
      rw [if_pos (by simp only [wordN, List.length_cons]; exact hlong)]
     go_wp2_with (first
      | (at_builtin; refine Row.append_string hB3.out rfl (.tmp 42) (.tmp 43) 48 9 rfl Tryz.underlying48 Tryz.underlying9 Go.Proofs.YtlhajfepcggjaaaGreatDoor.B.infoByte rfl _ rfl (by show _ + (sayR l0 k).2.length ≤ _; omega) ?_; intro v6 w6 hr6 hg6; have HR6 := Aside0.mk hr6; clear hr6 hg6)
      | (at_builtin; refine Row.append_slice (HR6.out.alloc _) rfl (.tmp 45) (.tmp 46) 48 rfl Tryz.underlying48 Go.Proofs.YtlhajfepcggjaaaGreatDoor.B.infoByte rfl 10 10 rfl ⟨w6.heap.size, 0, none⟩ 1 rfl (by simp [Addr.add, World.cell?_alloc_new]) (by rw [List.length_append]; show _ + (sayR l0 k).2.length + 1 ≤ _; omega) ?_; intro v7 w7 hr7 hg7; have HR7 := Aside0.mk hr7; clear hr7 hg7))
     go_roundw
     case rel =>
      refine ⟨k + 1, by omega, by go_num, ?_, ⟨?_⟩⟩
      ·rw [sayR, hN, hR]; simp only [wordN]; exact congrArg Value.string (by apply ByteArray.ext; simp)
      ·rw [sayR, hN, hR]; exact HR7.out
     case measure => simp [intOf]; omega
    ·have hR : putR (sayR l0 k) (-((k : Int) + 1)) = ((sayR l0 k).1, (sayR l0 k).2 ++ wordN (-((k : Int) + 1))) := by
      unfold putR
      rw [if_neg (by simp only [wordN, List.length_cons]; exact hlong)]
     go_wp2_with fail
     go_roundw
     case rel =>
      refine ⟨k + 1, by omega, by go_num, ?_, ⟨?_⟩⟩
      ·rw [sayR, hN, hR]; simp only [wordN]; exact congrArg Value.string (by apply ByteArray.ext; simp)
      ·rw [sayR, hN, hR]; exact hB3.out
     case measure => simp [intOf]; omega
  ·by_cases he : k = l0.length
   ·obtain rfl := he
    have hxl := Lib.itoa_length_le (0) (by omega) (by omega)
    have hN : numR l0 l0.length = 0 := by
     unfold numR
     rw [if_neg hlt]
    go_wp2_with fail
    refine (strconv_Itoa_21.calls (0) _ _ (HE.out.below hB.out.below) (by unfold strconv_Itoa_21.f; exact if_pos (by omega))).mono ?_
    rintro e w3 ⟨rfl, hb3⟩
    have hB3 := Aside0.mk (hB.out.on hb3)
    clear hb3
    by_cases hlong : (sayR l0 l0.length).2.length + ((Lib.itoa (0)).length + 1) > 78
    ·have hR : putR (sayR l0 l0.length) (0) = ((sayR l0 l0.length).1 ++ (sayR l0 l0.length).2 ++ [10], [118] ++ wordN (0)) := by
      unfold putR
      rw [if_pos (by simp only [wordN, List.length_cons]; exact hlong)]
     go_wp2_with (first
      | (at_builtin; refine Row.append_string hB3.out rfl (.tmp 42) (.tmp 43) 48 9 rfl Tryz.underlying48 Tryz.underlying9 Go.Proofs.YtlhajfepcggjaaaGreatDoor.B.infoByte rfl _ rfl (by show _ + (sayR l0 l0.length).2.length ≤ _; omega) ?_; intro v6 w6 hr6 hg6; have HR6 := Aside0.mk hr6; clear hr6 hg6)
      | (at_builtin; refine Row.append_slice (HR6.out.alloc _) rfl (.tmp 45) (.tmp 46) 48 rfl Tryz.underlying48 Go.Proofs.YtlhajfepcggjaaaGreatDoor.B.infoByte rfl 10 10 rfl ⟨w6.heap.size, 0, none⟩ 1 rfl (by simp [Addr.add, World.cell?_alloc_new]) (by rw [List.length_append]; show _ + (sayR l0 l0.length).2.length + 1 ≤ _; omega) ?_; intro v7 w7 hr7 hg7; have HR7 := Aside0.mk hr7; clear hr7 hg7))
     go_roundw
     case rel =>
      refine ⟨l0.length + 1, by omega, by go_num, ?_, ⟨?_⟩⟩
      ·rw [sayR, hN, hR]; simp only [wordN]; exact congrArg Value.string (by apply ByteArray.ext; simp)
      ·rw [sayR, hN, hR]; exact HR7.out
     case measure => simp [intOf]
    ·have hR : putR (sayR l0 l0.length) (0) = ((sayR l0 l0.length).1, (sayR l0 l0.length).2 ++ wordN (0)) := by
      unfold putR
      rw [if_neg (by simp only [wordN, List.length_cons]; exact hlong)]
     go_wp2_with fail
     go_roundw
     case rel =>
      refine ⟨l0.length + 1, by omega, by go_num, ?_, ⟨?_⟩⟩
      ·rw [sayR, hN, hR]; simp only [wordN]; exact congrArg Value.string (by apply ByteArray.ext; simp)
      ·rw [sayR, hN, hR]; exact hB3.out
     case measure => simp [intOf]
   ·obtain rfl : k = l0.length + 1 := by omega
    go_wp2_with (first
     | (at_builtin; refine Row.append_string hB.out rfl (.tmp 51) (.tmp 52) 48 9 rfl Tryz.underlying48 Tryz.underlying9 Go.Proofs.YtlhajfepcggjaaaGreatDoor.B.infoByte rfl _ rfl (by show _ + (sayR l0 (l0.length + 1)).2.length ≤ _; omega) ?_; intro v6 w6 hr6 hg6; have HR6 := Aside0.mk hr6; clear hr6 hg6)
     | (at_builtin; refine Row.append_slice (HR6.out.alloc _) rfl (.tmp 54) (.tmp 55) 48 rfl Tryz.underlying48 Go.Proofs.YtlhajfepcggjaaaGreatDoor.B.infoByte rfl 10 10 rfl ⟨w6.heap.size, 0, none⟩ 1 rfl (by simp [Addr.add, World.cell?_alloc_new]) (by rw [List.length_append]; show _ + (sayR l0 (l0.length + 1)).2.length + 1 ≤ _; omega) ?_; intro v7 w7 hr7 hg7; have HR7 := Aside0.mk hr7; have hstr := Row.string (P := Tryz.prog) (src := 48) (dst := 9) hr7 Tryz.underlying48 Tryz.underlying5 Tryz.underlying9 (by rw [List.length_append, List.length_append]; show _ + (sayR l0 (l0.length + 1)).2.length + 1 ≤ _; omega); clear hr7 hg7))
    go_ret
    refine ⟨?_, HR7.out.below⟩
    rw [← HRR.out]
    have eT : saysT true l0 = (sayR l0 (l0.length + 1)).1 ++ ((sayR l0 (l0.length + 1)).2 ++ [10]) := by rw [sayR_last]; simp [saysT, List.append_assoc]
    rw [eT]
    trace_state
    rfl

theorem depotref03_WriteAnswer.calls (a0 : Bool) (A1 : Option Addr) (c1 : Nat) (l1 : List Bool) (r : ByteArray) (w : World) (hr1 : Kd.C Kd.bool w A1 l1.length l1) (hc1 : l1.length ≤ c1) (hE : Env w) (h : depotref03_WriteAnswer.f a0 l1 = some r) :
  Calls Tryz.prog 13 #[.bool a0, .slice A1 l1.length c1] w fun e w' => e = .returned (.string r) ∧ Below w.heap.size w w' := by
 unfold depotref03_WriteAnswer.f at h
 by_cases hh : l1.length ≤ 1048576
 ·rw [if_pos hh] at h
  have h' := Option.some.inj h
  cases a0 with
  | true => exact refSays_walk A1 c1 l1 r w hr1 hc1 hE hh h'
  | false =>
   obtain rfl := h'
   go_enter Tryz.func13, Tryz.ntmps13
   go_wp2_with fail
   go_ret
   exact ⟨rfl, Below.refl _ _⟩
 ·rw [if_neg hh] at h
  cases h
end Go.Proofs.YtlhajfepcggjaaaGreatDoor.P

set_option linter.unusedVariables false
set_option linter.unusedSimpArgs false
namespace Go.Proofs.YtlhajfepcggjaaaGreatDoor.P
open Go.Proofs.YtlhajfepcggjaaaGreatDoor.R
open Go.RowKit Go.Proofs.YtlhajfepcggjaaaGreatDoorW.PrintWords Go.Proofs.YtlhajfepcggjaaaGreatDoorW.PrintLast Go.Proofs.YtlhajfepcggjaaaGreatDoorW.PrintMore
open Go.Proofs.YtlhajfepcggjaaaGreatDoor.M (Row)

/-- What depot/depotref03.Write comes to. -/
def depotref03_Write.f (v : Int) (l : List (List Int)) : Option (ByteArray × Int) := if l.length ≤ 1048576 ∧ ∀ s ∈ l, s.length ≤ 1048576 then some (dimR v l) else none

set_option maxHeartbeats 8000000 in
set_option maxRecDepth 100000 in
theorem refWrite_walk (v : Int) (A0 : Option Addr) (c0 : Nat) (l0 : List (List Int)) (r : ByteArray × Int) (w : World) (hr0 : Kd.C (Kd.slice 3 (Kd.int .i64)) w A0 l0.length l0) (hc0 : l0.length ≤ c0) (hE : Env w) (hn : l0.length ≤ 1048576) (hm : ∀ s ∈ l0, s.length ≤ 1048576) (hr : dimR v l0 = r) :
  Calls Tryz.prog 6 #[.agg #[.int .i64 v, .slice A0 l0.length c0]] w fun e w' => e = .returned (.tuple #[.string r.1, .int .i64 r.2]) ∧ Below w.heap.size w w' := by
 have hu28 := Tryz.underlying24
 have HR := Aside0.mk hr0
 have HC := Aside0.mk hc0
 have HE := Aside0.mk hE
 have HM := Aside0.mk hm
 have HRR := Aside0.mk hr
 clear hr0 hc0 hE hm hr
 go_enter Tryz.func6, Tryz.ntmps6
 go_wp2_with fail
 refine (depotref02_Formed.calls (l0.length + 1048576 + 3) v A0 c0 l0 (formOk v l0) _ (by (with_reducible repeat (first | apply Kd.C_alloc | apply Kd.C_drewN | apply Kd.C_drew)); exact HR.out) HC.out (refFormedF_is v l0 1048576 HM.out (by omega) (by omega) _ (by omega))).mono ?_
 rintro e w1 ⟨rfl, hb1⟩
 have HB1 := Aside0.mk hb1
 clear hb1
 have hbw : Below w.heap.size w w1 := by
  have := (Below.refl w.heap.size w).alloc (Nat.le_refl _) (.cells #[.int .i64 v, .slice A0 l0.length c0] 24)
  exact this.trans (HB1.out.mono (by simp))
 cases hok : formOk v l0 with
 | false =>
  go_wp2_with fail
  go_ret2
  have hR : dimR v l0 = (⟨#[]⟩, 1) := by
   unfold dimR
   rw [if_neg (by rw [hok]; decide)]
  rw [← HRR.out, hR]
  exact ⟨rfl, hbw⟩
 | true =>
  obtain ⟨hv0, hv1, hlits⟩ := formOk_parts hok
  go_wp2_with fail
  have f0 : w1.cell? ⟨w.heap.size, 0, none⟩ = some (.int .i64 v) := by rw [HB1.out.cell (by simp)]; simp [World.cell?_alloc_new]
  have f1 : w1.cell? ⟨w.heap.size, 1, none⟩ = some (.slice A0 l0.length c0) := by rw [HB1.out.cell (by simp)]; simp [World.cell?_alloc_new]
  have hlt1 : w.heap.size < w1.heap.size := World.block_lt_of_cell? w1 _ f0
  have hxv := Lib.itoa_length_le v (by omega) (by omega)
  have hxn := Lib.itoa_length_le (l0.length : Int) (by omega) (by omega)
  have HEn := HE.out.below hbw
  have HEH := Aside0.mk (show ((⟨#[112, 32, 99, 110, 102, 32]⟩ : ByteArray) ++ ⟨(Lib.itoa v).toArray⟩ ++ ⟨#[32]⟩ ++ ⟨(Lib.itoa (l0.length : Int)).toArray⟩ ++ ⟨#[10]⟩).data.toList = headF v l0.length by simp [headF])
  have HSZ := Aside0.mk (show ((⟨#[112, 32, 99, 110, 102, 32]⟩ : ByteArray) ++ ⟨(Lib.itoa v).toArray⟩ ++ ⟨#[32]⟩ ++ ⟨(Lib.itoa (l0.length : Int)).toArray⟩ ++ ⟨#[10]⟩).size = 6 + (Lib.itoa v).length + 1 + (Lib.itoa (l0.length : Int)).length + 1 by simp only [ByteArray.size_append]; rfl)
  have HZH := Aside0.mk (show ((⟨#[112, 32, 99, 110, 102, 32]⟩ : ByteArray) ++ ⟨(Lib.itoa v).toArray⟩ ++ ⟨#[32]⟩ ++ ⟨(Lib.itoa (l0.length : Int)).toArray⟩ ++ ⟨#[10]⟩).size ≤ 140737488355328 by simp only [ByteArray.size_append]; show (6 + (Lib.itoa v).length + 1 + (Lib.itoa (l0.length : Int)).length + 1) ≤ _; omega)
  have kp : ∀ W, Below w1.heap.size w1 W → W.cell? ⟨w.heap.size, 0, none⟩ = some (.int .i64 v) ∧ W.cell? ⟨w.heap.size, 1, none⟩ = some (.slice A0 l0.length c0) := fun W h => ⟨(h.cell hlt1).trans f0, (h.cell hlt1).trans f1⟩
  have KP := Aside0.mk kp
  have HEN := Aside0.mk HEn
  have hconv := fun w s => Lib.run_convert_string_bytes (P := Tryz.prog) w 9 48 5 s Tryz.underlying9 Tryz.underlying48 Tryz.underlying5
  clear kp HEn
  have hq1 : ¬ (9223372036854775807 < 6 + (Lib.itoa v).length) := by omega
  have hq2 : ¬ (9223372036854775807 < 6 + (Lib.itoa v).length + 1) := by omega
  have hq3 : ¬ (9223372036854775807 < 6 + (Lib.itoa v).length + 1 + (Lib.itoa (l0.length : Int)).length) := by omega
  have hq4 : ¬ (9223372036854775807 < 6 + (Lib.itoa v).length + 1 + (Lib.itoa (l0.length : Int)).length + 1) := by omega
  go_cut [4] (fun v4 wx => Aside0 (Row 5 w1 (headF v l0.length) v4 wx))
  case first =>
   go_region_with
    (first
     | (go_at_call 21; (with_reducible refine (strconv_Itoa_21.calls v _ _ (HEN.out.below (Below.refl _ _).drew) (by unfold strconv_Itoa_21.f; exact if_pos (by omega))).mono ?_); rintro e w2 ⟨rfl, hb2⟩; have HX := Aside0.mk ((Below.refl w1.heap.size w1).drew.trans hb2); have g2 := (KP.out _ HX.out).2; clear hb2)
     | (go_at_call 21; (with_reducible refine (strconv_Itoa_21.calls (l0.length : Int) _ _ (HEN.out.below HX.out) (by unfold strconv_Itoa_21.f; exact if_pos (by omega))).mono ?_); rintro e w3 ⟨rfl, hb3⟩; have HY := Aside0.mk (HX.out.trans (hb3.mono HX.out.size)); clear hb3))
   all_goals (go_wp2_with fail; go_meet; exact ⟨by rw [← HEH.out, ← HSZ.out]; exact Row.made (e := 5) HY.out _ HZH.out⟩)
  case rest =>
   have HS := hcut
   clear hconv
   have g1 := (KP.out wc HS.out.below).2
   go_wp2_with fail
   clear g1
   go_loopw [4, 5] (fun s i wr => ∃ k : Nat, k ≤ l0.length ∧ i = .int .i64 k ∧ Aside0 (Row 5 w1 (headF v l0.length ++ clausesT (l0.take k)) s wr)) (fun _ i _ => l0.length - (intOf i).toNat)
   case atStart => exact ⟨0, Nat.zero_le _, rfl, ⟨by simpa [clausesT] using HS.out⟩⟩
   case round =>
    obtain ⟨k, hk, rfl, hB⟩ := hrel
    have hbw2 := Aside0.mk (hbw.trans (hB.out.below.mono hbw.size))
    have g1 := (KP.out _ hB.out.below).2
    by_cases hlt : k < l0.length
    ·obtain ⟨ad, A1, c1, rfl, hx1, hl1, hC1⟩ := at_L3 HR.out (k : Int) (by omega) (by omega)
     have HL1 := Aside0.mk hl1
     have HC1 := Aside0.mk hC1
     have HX1 := Aside0.mk hx1
     clear hl1 hC1 hx1
     rw [rdL_nat hlt] at HL1 HC1 HX1
     have hsm := HM.out l0[k] (List.getElem_mem hlt)
     have hs := hlits l0[k] (List.getElem_mem hlt)
     have hsz := clausesT_length (l0.take k) 1048576 (fun s h => HM.out s (List.mem_of_mem_take h)) (fun s h => hlits s (List.mem_of_mem_take h))
     have hbig : (clausesT (l0.take k)).length ≤ 1048576 * (22 * 1048576 + 2) := Nat.le_trans hsz (Nat.mul_le_mul_right _ (by rw [List.length_take]; omega))
     have hhd := headF_length v l0.length hv0 hv1 hn
     clear hsz
     go_wp2_with fail
     clear g1
     go_loopw [4, 6] (fun s j w3 => ∃ m : Nat, m ≤ l0[k].length ∧ j = .int .i64 m ∧ Aside0 (Row 5 w1 (headF v l0.length ++ clausesT (l0.take k) ++ wordsT (l0[k].take m)) s w3)) (fun _ j _ => l0[k].length - (intOf j).toNat)
     case atStart => exact ⟨0, Nat.zero_le _, rfl, ⟨by simpa [wordsT] using hB.out⟩⟩
     case round =>
      obtain ⟨m, hmle, rfl, hB3⟩ := hrel
      have hwl := wordsT_length (l0[k].take m) (List.all_eq_true.2 fun x hx => List.all_eq_true.1 hs x (List.mem_of_mem_take hx))
      rw [List.length_take] at hwl
      have hlen3 : (headF v l0.length ++ clausesT (l0.take k) ++ wordsT (l0[k].take m)).length ≤ 1048576 * (22 * 1048576 + 2) + 50 + 22 * 1048576 := by
       rw [List.length_append, List.length_append]; omega
      have hbw3 := Aside0.mk (hbw.trans (hB3.out.below.mono hbw.size))
      have g1 := (KP.out _ hB3.out.below).2
      have hx1 := (hbw3.out.cell (World.block_lt_of_cell? w _ HX1.out)).trans HX1.out
      simp only [Int.toNat_natCast] at hx1
      by_cases hmt : m < l0[k].length
      ·obtain ⟨ad2, e2, hy⟩ := Kd.at_int (Kd.C_below HC1.out hbw3.out) (m : Int) (by omega) (by omega)
       subst e2
       rw [rd_nat hmt] at hy
       simp only [Int.toNat_natCast] at hy
       have hxr := litOk_range (List.all_eq_true.1 hs l0[k][m] (List.getElem_mem hmt))
       have hxl := Lib.itoa_length_le l0[k][m] (by omega) (by omega)
       go_wp2_with fail
       clear g1 hx1 hy
       refine (strconv_Itoa_21.calls l0[k][m] _ _ (HE.out.below hbw3.out) (by unfold strconv_Itoa_21.f; exact if_pos (by omega))).mono ?_
       rintro e w5 ⟨rfl, hb5⟩
       have hB5 := Aside0.mk (hB3.out.on hb5)
       go_wp2_with (first
        | (at_builtin; refine Row.append_string hB5.out rfl (.tmp 39) (.tmp 48) 48 9 rfl Tryz.underlying48 Tryz.underlying9 Go.Proofs.YtlhajfepcggjaaaGreatDoor.B.infoByte rfl _ rfl (by show _ + (Lib.itoa l0[k][m]).length ≤ _; omega) ?_; intro v6 w6 hr6 hg6; have HR6 := Aside0.mk hr6; clear hr6 hg6)
        | (at_builtin; refine Row.append_slice (HR6.out.alloc _) rfl (.tmp 50) (.tmp 51) 48 rfl Tryz.underlying48 Go.Proofs.YtlhajfepcggjaaaGreatDoor.B.infoByte rfl 32 32 rfl ⟨w6.heap.size, 0, none⟩ 1 rfl (by simp [Addr.add, World.cell?_alloc_new]) (by rw [List.length_append]; show _ + (Lib.itoa l0[k][m]).length + 1 ≤ _; omega) ?_; intro v7 w7 hr7 hg7; have HR7 := Aside0.mk hr7; clear hr7 hg7))
       go_roundw
       case rel => exact ⟨m + 1, by omega, by go_num, ⟨by rw [take_succ' hmt, wordsT_snoc, ← List.append_assoc, ← List.append_assoc]; exact HR7.out⟩⟩
       case measure => simp [intOf]; omega
      ·obtain rfl : m = l0[k].length := by omega
       rw [List.take_length] at hB3
       go_wp2_with (first
        | (at_builtin; refine Row.append_string hB3.out rfl (.tmp 53) (.const (.string ⟨#[48, 10]⟩)) 48 9 rfl Tryz.underlying48 Tryz.underlying9 Go.Proofs.YtlhajfepcggjaaaGreatDoor.B.infoByte rfl _ rfl (by rw [List.take_length] at hlen3; show _ + 2 ≤ _; omega) ?_; intro v6 w6 hr6 hg6; have HR6 := Aside0.mk hr6; clear hr6 hg6))
       go_roundw
       case rel =>
        refine ⟨k + 1, by omega, by go_num, ⟨?_⟩⟩
        rw [take_succ' hlt, clausesT_snoc, clauseT, ← List.append_assoc, ← List.append_assoc]
        exact HR6.out
       case measure => simp [intOf]; omega
    ·obtain rfl : k = l0.length := by omega
     rw [List.take_length] at hB
     have hsz := clausesT_length l0 1048576 HM.out hlits
     have hbig : (clausesT l0).length ≤ 1048576 * (22 * 1048576 + 2) := Nat.le_trans hsz (Nat.mul_le_mul_right _ hn)
     have hhd := headF_length v l0.length hv0 hv1 hn
     have hstr := Row.string (P := Tryz.prog) (src := 48) (dst := 9) hB.out Tryz.underlying48 Tryz.underlying5 Tryz.underlying9 (by rw [List.length_append]; omega)
     go_wp2_with fail
     go_ret2
     have hR : dimR v l0 = (⟨(formT v l0).toArray⟩, 0) := by
      unfold dimR
      rw [if_pos hok]
     rw [← HRR.out, hR]
     exact ⟨rfl, hbw2.out⟩

theorem depotref03_Write.calls (a0_0 : Int) (A0_1 : Option Addr) (c0_1 : Nat) (l0_1 : List (List Int)) (r1 : ByteArray) (r2 : Int) (w : World) (hr0_1 : Kd.C (Kd.slice 3 (Kd.int .i64)) w A0_1 l0_1.length l0_1) (hc0_1 : l0_1.length ≤ c0_1) (hE : Env w) (h : depotref03_Write.f a0_0 l0_1 = some (r1, r2)) :
  Calls Tryz.prog 6 #[.agg #[.int .i64 a0_0, .slice A0_1 l0_1.length c0_1]] w fun e w' => e = .returned (.tuple #[.string r1, .int .i64 r2]) ∧ Below w.heap.size w w' := by
 unfold depotref03_Write.f at h
 by_cases hh : l0_1.length ≤ 1048576 ∧ ∀ s ∈ l0_1, s.length ≤ 1048576
 ·rw [if_pos hh] at h
  exact refWrite_walk a0_0 A0_1 c0_1 l0_1 (r1, r2) w hr0_1 hc0_1 hE hh.1 hh.2 (Option.some.inj h)
 ·rw [if_neg hh] at h
  cases h
end Go.Proofs.YtlhajfepcggjaaaGreatDoor.P
