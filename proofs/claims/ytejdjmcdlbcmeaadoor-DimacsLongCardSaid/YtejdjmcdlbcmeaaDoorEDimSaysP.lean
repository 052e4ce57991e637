/- What depot/dimacs.WriteAnswer comes to: the text of the answer. No conditions. -/
import Derived.Test.YtejdjmcdlbcmeaaDoorPx1
import Derived.Test.YtejdjmcdlbcmeaaDoorFormP
import Derived.Test.YtejdjmcdlbcmeaaDoorLibP
import Derived.Lib.ItoaLen
set_option linter.unusedVariables false
set_option linter.unusedSimpArgs false
namespace Go.Proofs.YtejdjmcdlbcmeaaDoor.P
open Go.RowKit Go.Proofs.YtejdjmcdlbcmeaaDoorW.PrintWords Go.Proofs.YtejdjmcdlbcmeaaDoorW.PrintLast Go.Proofs.YtejdjmcdlbcmeaaDoorW.PrintMore
open Go.Proofs.YtejdjmcdlbcmeaaDoor.B (Bld)

/-- A number's word; a word put: (the lines that are ended, the line under way). -/
def wordN (n : Int) : List UInt8 := 32 :: Lib.itoa n
def putR (s : List UInt8 × List UInt8) (n : Int) : List UInt8 × List UInt8 := if s.2.length + (wordN n).length > 78 then (s.1 ++ s.2 ++ [10], [118] ++ wordN n) else (s.1, s.2 ++ wordN n)
/-- The number of place i. -/
def numAt (m : List Bool) (i : Nat) : Int := if m.getD i false then (i : Int) + 1 else -(i : Int) - 1
def headS : List UInt8 := [115, 32, 83, 65, 84, 73, 83, 70, 73, 65, 66, 76, 69, 10]
/-- What stands after k places. -/
def sayS (m : List Bool) : Nat → List UInt8 × List UInt8
  | 0 => (headS, [118])
  | k + 1 => putR (sayS m k) (numAt m k)
def unsatT : List UInt8 := [115, 32, 85, 78, 83, 65, 84, 73, 83, 70, 73, 65, 66, 76, 69, 10]
def saysT (sat : Bool) (m : List Bool) : List UInt8 := if sat then (putR (sayS m m.length) 0).1 ++ (putR (sayS m m.length) 0).2 ++ [10] else unsatT
theorem wordN_length {n : Int} (h0 : -9223372036854775808 ≤ n) (h1 : n ≤ 9223372036854775807) : (wordN n).length ≤ 22 := by
  have := Lib.itoa_length_le n h0 h1
  simp only [wordN, List.length_cons]; omega
theorem numAt_range (m : List Bool) (i : Nat) (hi : i ≤ 1048576) : -9223372036854775808 ≤ numAt m i ∧ numAt m i ≤ 9223372036854775807 := by
  unfold numAt; split <;> omega
theorem putR_length (s : List UInt8 × List UInt8) {n : Int} (h0 : -9223372036854775808 ≤ n) (h1 : n ≤ 9223372036854775807) (h2 : s.2.length ≤ 100) : (putR s n).1.length + (putR s n).2.length ≤ s.1.length + s.2.length + 24 ∧ (putR s n).2.length ≤ 100 := by
  have := wordN_length h0 h1
  unfold putR
  split
  · simp only [List.length_append, List.length_cons, List.length_nil]; omega
  · simp only [List.length_append]; omega
theorem sayS_length (m : List Bool) (k : Nat) (hk : k ≤ 1048577) : (sayS m k).1.length + (sayS m k).2.length ≤ 15 + 24 * k ∧ (sayS m k).2.length ≤ 100 := by
  induction k with
  | zero => simp [sayS, headS]
  | succ k ih =>
    have h := ih (by omega)
    have hr := numAt_range m k (by omega)
    have := putR_length (sayS m k) hr.1 hr.2 h.2
    simp only [sayS]; omega

/-- What depot/dimacs.WriteAnswer comes to. -/
def dimacs_WriteAnswer.f (a0 : Bool) (l1 : List Bool) : Option ByteArray := if l1.length ≤ 1048576 then some ⟨(saysT a0 l1).toArray⟩ else none

/-- The builder holds both, and the counter the second one's length. -/
structure Put (w0 : World) (L : Nat) (s : List UInt8 × List UInt8) (w : World) : Prop where
  b : Bld w0 (s.1 ++ s.2) w
  l : w.heap[L]? = some (.cells #[.int .i64 (s.2.length : Int)] 3 (0, 0))
  ne : L ≠ w0.heap.size
  le : w0.heap.size ≤ L
theorem Put.lt {w0 w : World} {L : Nat} {s : List UInt8 × List UInt8} (h : Put w0 L s w) : L < w.heap.size := (Array.getElem?_eq_some_iff.1 h.l).1

set_option maxHeartbeats 8000000 in
set_option maxRecDepth 100000 in
theorem put_walk (w0 : World) (L : Nat) (s : List UInt8 × List UInt8) (n : Int) (w : World) (hP : Put w0 L s w) (hE : Env w) (h0 : -9223372036854775808 ≤ n) (h1 : n ≤ 9223372036854775807) (hs : s.1.length + s.2.length ≤ 140000000000000) (hs2 : s.2.length ≤ 100) :
    Calls Tryd.prog 30 #[.int .i64 n, .pointer (some ⟨L, 0, none⟩), .pointer (some ⟨w0.heap.size, 0, none⟩)] w fun e w' => e = .returned (.tuple #[]) ∧ Put w0 L (putR s n) w' := by
  have HP := Aside0.mk hP
  have HE := Aside0.mk hE
  clear hP hE
  have hxl := Lib.itoa_length_le n h0 h1
  go_enter Tryd.func30, Tryd.ntmps30
  go_wp2_with fail
  refine (strconv_Itoa_20.calls n _ _ HE.out (by unfold strconv_Itoa_20.f; exact if_pos (by omega))).mono ?_
  rintro e w1 ⟨rfl, hb1⟩
  have hl1 : w1.heap[L]? = some (.cells #[.int .i64 (s.2.length : Int)] 3 (0, 0)) := (hb1.block L HP.out.lt).trans HP.out.l
  have HP1 := Aside0.mk (HP.out.b.on hb1)
  have HL1 := Aside0.mk hl1
  clear hb1
  have c1 : w1.cell? ⟨L, 0, none⟩ = some (.int .i64 (s.2.length : Int)) := by rw [Lib.cell_of_heap hl1]; rfl
  clear hl1
  have e78 : wrap64 ((s.2.length : Int) + ((Lib.itoa n).length + 1 : Nat)) = ((s.2.length + ((Lib.itoa n).length + 1) : Nat) : Int) := by rw [w64 (by omega) (by omega)]; omega
  have hle := HP.out.le
  by_cases hlong : s.2.length + ((Lib.itoa n).length + 1) > 78
  · have hR : putR s n = (s.1 ++ s.2 ++ [10], [118] ++ wordN n) := by
      unfold putR
      rw [if_pos (by simp only [wordN, List.length_cons]; exact hlong)]
    go_wp2_with fail
    refine (Bld.write HP1.out _ (by rw [List.length_append]; show _ + 2 ≤ _; omega)).mono ?_
    rintro e w2 ⟨rfl, hb2, hk2⟩
    have hz2 : w2.heap[L]? = some (.cells #[.int .i64 (s.2.length : Int)] 3 (0, 0)) := hk2 L _ HL1.out (fun e => HP.out.ne (Option.some.inj e)) (by intro c fz h; cases h)
    have d2 : w2.cell? ⟨L, 0, none⟩ = some (.int .i64 (s.2.length : Int)) := by rw [Lib.cell_of_heap hz2]; rfl
    have f2 : w2.frozen? ⟨L, 0, none⟩ = false := Lib.frozen_of_heap hz2 0
    go_wp2_with fail
    have hz2b : (w2.setCell ⟨L, 0, none⟩ (.int .i64 1)).heap[L]? = some (.cells #[.int .i64 1] 3 (0, 0)) := by
      rw [setCell_eq_setRow _ _ _ _ _ _ _ hz2]; exact setRow_heap _ _ _ _ _ _ hz2
    refine (Bld.write (hb2.setOther hz2 (by decide) HP.out.ne hle 0 _) _ (by rw [show ∀ a b : ByteArray, (a ++ b).size = a.size + b.size from fun a b => ByteArray.size_append, List.length_append, List.length_append]; show _ + 2 + (1 + (Lib.itoa n).length) ≤ _; omega)).mono ?_
    rintro e w3 ⟨rfl, hb3, hk3⟩
    have hz3 : w3.heap[L]? = some (.cells #[.int .i64 1] 3 (0, 0)) := hk3 L _ hz2b (fun e => HP.out.ne (Option.some.inj e)) (by intro c fz h; cases h)
    have d3 : w3.cell? ⟨L, 0, none⟩ = some (.int .i64 1) := by rw [Lib.cell_of_heap hz3]; rfl
    have f3 : w3.frozen? ⟨L, 0, none⟩ = false := Lib.frozen_of_heap hz3 0
    go_wp2_with fail
    go_end0
    refine ⟨rfl, ?_⟩
    rw [hR]
    have eL : (1 : Int) + (1 + ((Lib.itoa n).length : Int)) = (([118] ++ wordN n).length : Int) := by simp only [wordN, List.length_append, List.length_cons, List.length_nil]; omega
    refine ⟨?_, ?_, HP.out.ne, hle⟩
    · have hb4 := hb3.setOther hz3 (by decide) HP.out.ne hle 0 (.int .i64 (1 + (1 + ((Lib.itoa n).length : Int))))
      have eB : s.1 ++ s.2 ++ (⟨#[10, 118]⟩ : ByteArray).data.toList ++ ((⟨#[32]⟩ : ByteArray) ++ ⟨(Lib.itoa n).toArray⟩).data.toList = (s.1 ++ s.2 ++ [10]) ++ ([118] ++ wordN n) := by simp [wordN]
      rw [← eB]
      exact hb4
    · rw [setCell_eq_setRow _ _ _ _ _ _ _ hz3, eL]
      exact setRow_heap _ _ _ _ _ _ hz3
  · have hR : putR s n = (s.1, s.2 ++ wordN n) := by
      unfold putR
      rw [if_neg (by simp only [wordN, List.length_cons]; exact hlong)]
    go_wp2_with fail
    refine (Bld.write HP1.out _ (by rw [show ∀ a b : ByteArray, (a ++ b).size = a.size + b.size from fun a b => ByteArray.size_append, List.length_append]; show _ + (1 + (Lib.itoa n).length) ≤ _; omega)).mono ?_
    rintro e w3 ⟨rfl, hb3, hk3⟩
    have hz3 : w3.heap[L]? = some (.cells #[.int .i64 (s.2.length : Int)] 3 (0, 0)) := hk3 L _ HL1.out (fun e => HP.out.ne (Option.some.inj e)) (by intro c fz h; cases h)
    have d3 : w3.cell? ⟨L, 0, none⟩ = some (.int .i64 (s.2.length : Int)) := by rw [Lib.cell_of_heap hz3]; rfl
    have f3 : w3.frozen? ⟨L, 0, none⟩ = false := Lib.frozen_of_heap hz3 0
    go_wp2_with fail
    go_end0
    refine ⟨rfl, ?_⟩
    rw [hR]
    have eL : ((s.2.length : Int) : Int) + (1 + ((Lib.itoa n).length : Int)) = ((s.2 ++ wordN n).length : Int) := by simp only [wordN, List.length_append, List.length_cons]; omega
    refine ⟨?_, ?_, HP.out.ne, hle⟩
    · have hb4 := hb3.setOther hz3 (by decide) HP.out.ne hle 0 (.int .i64 ((s.2.length : Int) + (1 + ((Lib.itoa n).length : Int))))
      have eB : s.1 ++ s.2 ++ ((⟨#[32]⟩ : ByteArray) ++ ⟨(Lib.itoa n).toArray⟩).data.toList = s.1 ++ (s.2 ++ wordN n) := by simp [wordN]
      rw [← eB]
      exact hb4
    · rw [setCell_eq_setRow _ _ _ _ _ _ _ hz3, eL]
      exact setRow_heap _ _ _ _ _ _ hz3

set_option maxHeartbeats 8000000 in
set_option maxRecDepth 100000 in
theorem says_walk (A0 : Option Addr) (c0 : Nat) (l0 : List Bool) (r : ByteArray) (w : World) (hr0 : Kd.C Kd.bool w A0 l0.length l0) (hc0 : l0.length ≤ c0) (hE : Env w) (hn : l0.length ≤ 1048576) (hr : ⟨(saysT true l0).toArray⟩ = r) :
    Calls Tryd.prog 12 #[.bool true, .slice A0 l0.length c0] w fun e w' => e = .returned (.string r) ∧ Below w.heap.size w w' := by
  have HR := Aside0.mk hr0
  have HC := Aside0.mk hc0
  have HE := Aside0.mk hE
  have HRR := Aside0.mk hr
  clear hr0 hc0 hE hr
  have hmf : ∀ (fn : Fn) (first cap : Array Value) (w : World), (Instr.makeFunc fn first cap).run Tryd.prog w = .ok (.func fn first cap) w := fun _ _ _ _ => rfl
  go_enter Tryd.func12, Tryd.ntmps12
  go_wp2_with fail
  refine (Bld.write (Bld.start w) _ (by show 0 + 15 ≤ _; omega)).mono ?_
  rintro e w1 ⟨rfl, hb1, hk1⟩
  have HB1 := Aside0.mk hb1
  clear hb1 hk1
  go_wp2_with fail
  have hlt1 : w.heap.size < w1.heap.size := HB1.out.lt
  have HS := Aside0.mk (show Put w w1.heap.size (sayS l0 0) (w1.alloc (.cells #[.int .i64 1] 3)) from ⟨HB1.out.alloc _, heap_alloc_new w1 _, by omega, by omega⟩)
  go_loopw [16] (fun i wr => ∃ k : Nat, k ≤ l0.length ∧ i = .int .i64 k ∧ Aside0 (Put w w1.heap.size (sayS l0 k) wr)) (fun i _ => l0.length - (intOf i).toNat)
  case atStart => exact ⟨0, Nat.zero_le _, rfl, HS⟩
  case round =>
    obtain ⟨k, hk, rfl, hB⟩ := hrel
    have hsl := sayS_length l0 k (by omega)
    by_cases hlt : k < l0.length
    · obtain ⟨ad, rfl, hx⟩ := Kd.at_bool HR.out (k : Int) (by omega) (by omega)
      replace hx := (hB.out.b.below.cell (World.block_lt_of_cell? w _ hx)).trans hx
      rw [rdOf_nat hlt] at hx
      simp only [Int.toNat_natCast] at hx
      cases hv : l0[k] with
      | true =>
        rw [hv] at hx
        go_wp2_with fail
        refine (put_walk w w1.heap.size (sayS l0 k) ((k : Int) + 1) _ hB.out (HE.out.below hB.out.b.below) (by omega) (by omega) (by omega) hsl.2).mono ?_
        rintro e w3 ⟨rfl, hP3⟩
        have hB3 := Aside0.mk hP3
        clear hP3
        go_wp2_with fail
        go_roundw
        case rel =>
          have eN : numAt l0 k = (k : Int) + 1 := by
            unfold numAt
            rw [List.getD_eq_getElem?_getD, List.getElem?_eq_getElem hlt, Option.getD_some, hv]
            rfl
          exact ⟨k + 1, by omega, by go_num, ⟨by rw [sayS, eN]; exact hB3.out⟩⟩
        case measure => simp [intOf]; omega
      | false =>
        rw [hv] at hx
        go_wp2_with fail
        refine (put_walk w w1.heap.size (sayS l0 k) (-(k : Int) - 1) _ hB.out (HE.out.below hB.out.b.below) (by omega) (by omega) (by omega) hsl.2).mono ?_
        rintro e w3 ⟨rfl, hP3⟩
        have hB3 := Aside0.mk hP3
        clear hP3
        go_wp2_with fail
        go_roundw
        case rel =>
          have eN : numAt l0 k = -(k : Int) - 1 := by
            unfold numAt
            rw [List.getD_eq_getElem?_getD, List.getElem?_eq_getElem hlt, Option.getD_some, hv]
            rfl
          exact ⟨k + 1, by omega, by go_num, ⟨by rw [sayS, eN]; exact hB3.out⟩⟩
        case measure => simp [intOf]; omega
    · obtain rfl : k = l0.length := by omega
      go_wp2_with fail
      refine (put_walk w w1.heap.size (sayS l0 l0.length) 0 _ hB.out (HE.out.below hB.out.b.below) (by omega) (by omega) (by omega) hsl.2).mono ?_
      rintro e w3 ⟨rfl, hP3⟩
      have hB3 := Aside0.mk hP3
      clear hP3
      have hpl := putR_length (sayS l0 l0.length) (n := 0) (by omega) (by omega) hsl.2
      go_wp2_with fail
      refine (Bld.write hB3.out.b _ (by rw [List.length_append]; show _ + 1 ≤ _; omega)).mono ?_
      rintro e w4 ⟨rfl, hb4, hk4⟩
      have hB4 := Aside0.mk hb4
      clear hb4 hk4
      go_wp2_with fail
      refine (Bld.string hB4.out).mono ?_
      rintro e w5 ⟨rfl, hb5⟩
      go_wp2_with fail
      go_ret
      have eT : saysT true l0 = (putR (sayS l0 l0.length) 0).1 ++ ((putR (sayS l0 l0.length) 0).2 ++ [10]) := by simp [saysT, List.append_assoc]
      rw [← HRR.out, eT]
      exact ⟨rfl, hB4.out.below.trans hb5⟩

theorem dimacs_WriteAnswer.calls (a0 : Bool) (A1 : Option Addr) (c1 : Nat) (l1 : List Bool) (r : ByteArray) (w : World) (hr1 : Kd.C Kd.bool w A1 l1.length l1) (hc1 : l1.length ≤ c1) (hE : Env w) (h : dimacs_WriteAnswer.f a0 l1 = some r) :
    Calls Tryd.prog 12 #[.bool a0, .slice A1 l1.length c1] w fun e w' => e = .returned (.string r) ∧ Below w.heap.size w w' := by
  unfold dimacs_WriteAnswer.f at h
  by_cases hh : l1.length ≤ 1048576
  · rw [if_pos hh] at h
    have h' := Option.some.inj h
    cases a0 with
    | true => exact says_walk A1 c1 l1 r w hr1 hc1 hE hh h'
    | false =>
      obtain rfl := h'
      go_enter Tryd.func12, Tryd.ntmps12
      go_wp2_with fail
      go_ret
      exact ⟨rfl, Below.refl _ _⟩
  · rw [if_neg hh] at h
    cases h
end Go.Proofs.YtejdjmcdlbcmeaaDoor.P
