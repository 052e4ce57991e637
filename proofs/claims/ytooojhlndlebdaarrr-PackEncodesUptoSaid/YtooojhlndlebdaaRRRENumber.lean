/- The bytes of a number: what the call of pack.Number comes to, for every number of 64 bits. No conditions. -/
import Derived.Test.YtooojhlndlebdaaRRRPx0
import Derived.Laws.BitsAllLaws
set_option linter.unusedVariables false
set_option linter.unusedSimpArgs false
namespace Go.Proofs.YtooojhlndlebdaaRRR.P
open Go.RowKit Go.Proofs.YtooojhlndlebdaaRRRW.PrintWords Go.Proofs.YtooojhlndlebdaaRRRW.PrintLast Go.Proofs.YtooojhlndlebdaaRRRW.PrintMore

/-- The bytes of a number, f of them at the most. -/
def numF : Nat → Nat → List Nat
  | 0, _ => []
  | f + 1, n => if n < 128 then [n] else (n % 128 + 128) :: numF f (n / 128)

/-- What pack.Number comes to. -/
def pack_Number.f (a0 : Int) : Option (List Int) := if 0 ≤ a0 ∧ a0 ≤ 18446744073709551615 then some ((numF 10 a0.toNat).map fun n : Nat => (n : Int)) else none

/-- The bytes of m behind the bytes ys. -/
def cellsN (ys : List Int) : Array Value := (nums .u8 ys ++ List.replicate (10 - ys.length) (Value.int .u8 0)).toArray

set_option maxRecDepth 100000 in
theorem or128_all : ∀ a : Fin 256, (a.val ||| 128) = a.val % 128 + 128 := by decide
theorem or128 (m : Nat) : bits .or .u8 ((m : Int) % 256) 128 = ((m % 128 + 128 : Nat) : Int) := by
  rw [u8_or _ _ (by omega) (by omega) (by omega) (by omega)]
  have h := or128_all ⟨((m : Int) % 256).toNat, by omega⟩
  simp only at h
  show ((((m : Int) % 256).toNat ||| 128 : Nat) : Int) = _
  rw [h]
  omega

theorem cellsN_at (ys : List Int) (h : ys.length < 10) : (cellsN ys)[ys.length]? = some (.int .u8 0) := by
  unfold cellsN
  rw [List.getElem?_toArray, List.getElem?_append_right (by rw [nums_length]; omega), nums_length, Nat.sub_self, List.getElem?_replicate]
  simp; omega
theorem cellsN_size (ys : List Int) (h : ys.length ≤ 10) : (cellsN ys).size = 10 := by
  unfold cellsN; simp [nums_length]; omega
theorem cellsN_set (ys : List Int) (y : Int) (h : ys.length < 10) : (cellsN ys).setIfInBounds ys.length (.int .u8 y) = cellsN (ys ++ [y]) := by
  unfold cellsN
  apply Array.ext'
  simp only [Array.toList_setIfInBounds, List.length_append, List.length_singleton, nums_append]
  rw [List.set_append_right _ _ (by rw [nums_length]; omega), nums_length, Nat.sub_self]
  obtain ⟨j, hj⟩ : ∃ j, 10 - ys.length = j + 1 := ⟨9 - ys.length, by omega⟩
  rw [hj, show 10 - (ys.length + 1) = j by omega, List.replicate_succ]
  simp [nums]

theorem cellsN_reads (w : World) (ys : List Int) (n : Nat) (hn : ys.length = n) (h : ys.length ≤ 10) : ReadsInt (w.alloc (.cells (cellsN ys) 47)) .u8 (some ⟨w.heap.size, 0, none⟩) n ys := by
  refine ⟨hn, by omega, fun _ => ⟨_, rfl, fun j hj => ?_⟩⟩
  rw [add_plain]
  refine (blk_cell (heap_alloc_new w _) j).trans ?_
  unfold cellsN
  rw [List.getElem?_toArray, List.getElem?_append_left (by rw [nums_length]; omega)]
  unfold nums
  rw [List.getElem?_map, List.getElem?_eq_getElem (by omega), List.getD_eq_getElem?_getD, List.getElem?_eq_getElem (by omega)]
  rfl

theorem laid_len : Try.prog.arrayLen 47 = 10 := by kernel_rfl
theorem laid_elem : (sizeOf (Try.prog.elem 47)).run Try.prog = fun w => .ok 1 w := by kernel_rfl
theorem slice_laid (b k : Nat) (hk : k ≤ 9) (W : World) : (Instr.sliceAt 47 (.pointer (some ⟨b, 0, none⟩)) none (some (.int .i64 ((k : Int) + 1))) none).run Try.prog W = .ok (.slice (some ⟨b, 0, none⟩) (k + 1) 10) W := by
  rw [run_sliceAt_array_h W 47 _ (by kernel_rfl) .i64 ((k : Int) + 1) (by omega) (by rw [laid_len]; omega), laid_elem, laid_len]
  simp only [Result.andThen, slicedAt]
  rw [if_neg (by omega), show ((k : Int) + 1).toNat = k + 1 by omega]
  simp [add_plain]

theorem numF_last (j M : Nat) (h : M ≤ 127) : numF (j + 1) M = [M] := by
  unfold numF
  rw [if_pos (by omega)]
theorem numF_more (j M : Nat) (h : ¬ M ≤ 127) : numF (j + 1) M = (M % 128 + 128) :: numF j (M / 128) := by
  rw [numF, if_neg (by omega)]

set_option maxHeartbeats 1000000 in
theorem number_walk (n : Nat) (hn : n ≤ 18446744073709551615) (w : World) :
    Calls Try.prog 12 #[.int .u64 (n : Int)] w fun e w' => ∃ v0_ : Value, e = .returned (v0_) ∧ Kd.R (Kd.int .u8) 5 w' w.heap.size (fun _ => True) v0_ ((numF 10 n).map fun n : Nat => (n : Int)) ∧ Below w.heap.size w w' := by
  go_enter Try.func12, Try.ntmps12
  go_wp2
  go_loopw [0, 4] (fun m s wr => ∃ (M : Nat) (ys : List Int), ys.length ≤ 9 ∧ M * 128 ^ ys.length ≤ 18446744073709551615 ∧ m = .int .u64 (M : Int) ∧ s = .int .i64 (ys.length : Nat) ∧ wr = w.alloc (.cells (cellsN ys) 47) ∧ Aside0 ((numF 10 n).map (fun n : Nat => (n : Int)) = ys ++ (numF (10 - ys.length) M).map (fun n : Nat => (n : Int)))) (fun _ s _ => 10 - (intOf s).toNat)
  case atStart => exact ⟨n, [], by simp, by simpa using hn, rfl, rfl, rfl, ⟨by simp⟩⟩
  case round =>
    obtain ⟨M, ys, hk, hM, rfl, rfl, rfl, hA⟩ := hrel
    have hat := cellsN_at ys (by omega)
    have hsz := cellsN_size ys (by omega)
    have hkI : (ys.length : Int) < 10 := by omega
    by_cases hlt : M ≤ 127
    · have h1 : decide ((127 : Int) < (M : Int)) = false := by simp; omega
      have hsl := slice_laid w.heap.size ys.length hk
      have hset := cellsN_set ys M (by omega)
      have hR := Aside0.mk (cellsN_reads w (ys ++ [(M : Int)]) (ys.length + 1) (by simp) (by simp; omega))
      have hb := Aside0.mk (below_alloc (Below.refl w.heap.size w) (.cells (cellsN (ys ++ [(M : Int)])) 47))
      have hlen := Aside0.mk (show 0 + (ys.length + 1) ≤ 140737488355328 by omega)
      have hfin : (numF 10 n).map (fun n : Nat => (n : Int)) = [] ++ (ys ++ [(M : Int)]) := by
        obtain ⟨j, hj⟩ : ∃ j, 10 - ys.length = j + 1 := ⟨9 - ys.length, by omega⟩
        rw [hA.out, hj, numF_last _ _ hlt]
        rfl
      have HF := Aside0.mk hfin
      clear hfin hA
      go_wp2_with ((at_builtin; refine Kd.R_append_rows (Kd.int .u8) (w0 := w) w.heap.size rfl (.const (.slice none 0 0)) (.tmp 22) 35 5 (.int .u8 0) 1 rfl Try.underlying35 info5 rfl (by decide) (by omega) (.slice none 0 0) ([] : List Int) (ys ++ [(M : Int)]) _ _ _ (fun _ => True) (fun _ => False) rfl rfl (Kd.R_nil _ _ _ _ (fun _ => True)) (Kd.C_of_reads (d := (0 : Int)) (h1 := fun _ => rfl) hR.out) (fun _ _ h => h) (fun _ h => h.elim) (fun _ _ => trivial) hb.out hb.out.size (by simp; omega) ?_; intro v1 w1 ho1 hb1 _ _))
      clear hset hsl hat hsz
      go_ret
      refine ⟨v1, rfl, ?_, hb1⟩
      rw [HF.out]
      exact ho1
    · have h1 : decide ((127 : Int) < (M : Int)) = true := by simp; omega
      have h9 : ys.length + 1 ≤ 9 := by
        rcases Nat.lt_or_ge (ys.length + 1) 10 with h | h
        · omega
        · have e : ys.length = 9 := by omega
          rw [e] at hM
          omega
      go_wp2
      go_round
      case rel =>
        refine ⟨M / 128, ys ++ [((M % 128 + 128 : Nat) : Int)], by simp; omega, ?_, by simp, by simp, ?_, ⟨?_⟩⟩
        · simp only [List.length_append, List.length_singleton, Nat.pow_succ]
          have h2 : M / 128 * (128 ^ ys.length * 128) = M / 128 * 128 * 128 ^ ys.length := by rw [Nat.mul_comm (128 ^ ys.length) 128, Nat.mul_assoc]
          rw [h2]
          exact Nat.le_trans (Nat.mul_le_mul_right _ (Nat.div_mul_le_self M 128)) hM
        · rw [or128, cellsN_set _ _ (by omega)]
        · obtain ⟨j, hj⟩ : ∃ j, 10 - ys.length = j + 1 := ⟨9 - ys.length, by omega⟩
          rw [hA.out, hj, numF_more _ _ hlt, List.length_append, List.length_singleton, show 10 - (ys.length + 1) = j by omega]
          simp
      case measure => simp [intOf]; omega

theorem pack_Number.calls (a0 : Int) (r : List Int) (w : World) (h : pack_Number.f a0 = some r) :
    Calls Try.prog 12 #[.int .u64 a0] w fun e w' => ∃ v0_ : Value, e = .returned (v0_) ∧ Kd.R (Kd.int .u8) 5 w' w.heap.size (fun _ => True) v0_ r ∧ Below w.heap.size w w' := by
  unfold pack_Number.f at h
  by_cases hb : 0 ≤ a0 ∧ a0 ≤ 18446744073709551615
  · rw [if_pos hb] at h
    obtain ⟨n, rfl⟩ := Int.eq_ofNat_of_zero_le hb.1
    obtain rfl := Option.some.inj h
    exact number_walk n (by omega) w
  · rw [if_neg hb] at h
    cases h
end Go.Proofs.YtooojhlndlebdaaRRR.P
