/- What depot/depotref03.WriteAnswer comes to: the text of the answer. No conditions. -/
import Derived.Test.YtejdjmcdlbcmeaaDoorEDimSaysP
import Derived.Test.YtejdjmcdlbcmeaaDoorMarked
import Derived.Lib.SlBytesConst
set_option linter.unusedVariables false
set_option linter.unusedSimpArgs false
namespace Go.Proofs.YtejdjmcdlbcmeaaDoor.P
open Go.RowKit Go.Proofs.YtejdjmcdlbcmeaaDoorW.PrintWords Go.Proofs.YtejdjmcdlbcmeaaDoorW.PrintLast Go.Proofs.YtejdjmcdlbcmeaaDoorW.PrintMore
open Go.Proofs.YtejdjmcdlbcmeaaDoor.M (Row)

/-- The reference's numbers: those of the places, and 0 behind them. -/
def numR (m : List Bool) (k : Nat) : Int := if k < m.length then numAt m k else 0
def sayR (m : List Bool) : Nat → List UInt8 × List UInt8
  | 0 => (headS, [118])
  | k + 1 => putR (sayR m k) (numR m k)
theorem sayR_eq (m : List Bool) : ∀ k, k ≤ m.length → sayR m k = sayS m k
  | 0, _ => rfl
  | k + 1, h => by rw [sayR, sayS, sayR_eq m k (by omega), numR, if_pos (by omega)]
theorem sayR_last (m : List Bool) : sayR m (m.length + 1) = putR (sayS m m.length) 0 := by
  rw [sayR, sayR_eq m _ (Nat.le_refl _), numR, if_neg (by omega)]
theorem sayR_length (m : List Bool) (k : Nat) (hk : k ≤ 1048577) : (sayR m k).1.length + (sayR m k).2.length ≤ 15 + 24 * k ∧ (sayR m k).2.length ≤ 100 := by
  induction k with
  | zero => simp [sayR, headS]
  | succ k ih =>
    have h := ih (by omega)
    have hr : -9223372036854775808 ≤ numR m k ∧ numR m k ≤ 9223372036854775807 := by
      unfold numR
      split
      · exact numAt_range m k (by omega)
      · omega
    have := putR_length (sayR m k) hr.1 hr.2 h.2
    simp only [sayR]; omega
/-- What depot/depotref03.WriteAnswer comes to. -/
def depotref03_WriteAnswer.f (a0 : Bool) (l1 : List Bool) : Option ByteArray := if l1.length ≤ 1048576 then some ⟨(saysT a0 l1).toArray⟩ else none

set_option maxHeartbeats 8000000 in
set_option maxRecDepth 100000 in
theorem refSays_walk (A0 : Option Addr) (c0 : Nat) (l0 : List Bool) (r : ByteArray) (w : World) (hr0 : Kd.C Kd.bool w A0 l0.length l0) (hc0 : l0.length ≤ c0) (hE : Env w) (hn : l0.length ≤ 1048576) (hr : ⟨(saysT true l0).toArray⟩ = r) :
    Calls Tryd.prog 14 #[.bool true, .slice A0 l0.length c0] w fun e w' => e = .returned (.string r) ∧ Below w.heap.size w w' := by
  have HR := Aside0.mk hr0
  have HC := Aside0.mk hc0
  have HE := Aside0.mk hE
  have HRR := Aside0.mk hr
  clear hr0 hc0 hE hr
  go_enter Tryd.func14, Tryd.ntmps14
  go_wp2_with fail
  rw [Lib.run_convert_bytes_const w 36 5 _ 14 14 Tryd.underlying36 Tryd.underlying5]
  simp only [Result.andThen]
  rw [Oper.upon_value]
  go_wp2_with fail
  have HS := Aside0.mk (show Row 5 w headS (.slice (some ⟨w.heap.size, 0, none⟩) 14 14) (w.alloc (.cells (Lib.byteCells headS).toArray 5 (14, 15))) from ⟨⟨w.heap.size, 14, _, (14, 15), rfl, Nat.le_refl _, heap_alloc_new w _, fun j (hj : j < 14) (h : 14 ≤ j ∧ j < 15) => by omega, by decide, by decide, rfl, rfl⟩, (Below.refl _ _).alloc (Nat.le_refl _) _⟩)
  go_loopw [5, 6, 7] (fun s line i wr => ∃ k : Nat, k ≤ l0.length + 1 ∧ i = .int .i64 k ∧ line = .string ⟨(sayR l0 k).2.toArray⟩ ∧ Aside0 (Row 5 w (sayR l0 k).1 s wr)) (fun _ _ i _ => l0.length + 1 - (intOf i).toNat)
  case atStart => exact ⟨0, Nat.zero_le _, rfl, rfl, HS⟩
  case round =>
    clear HS
    obtain ⟨k, hk, rfl, rfl, hB⟩ := hrel
    have hsl := sayR_length l0 k (by omega)
    by_cases hlt : k < l0.length
    · obtain ⟨ad, rfl, hx⟩ := Kd.at_bool HR.out (k : Int) (by omega) (by omega)
      replace hx := (hB.out.below.cell (World.block_lt_of_cell? w _ hx)).trans hx
      rw [rdOf_nat hlt] at hx
      simp only [Int.toNat_natCast] at hx
      cases hv : l0[k] with
      | true =>
        rw [hv] at hx
        have hxl := Lib.itoa_length_le ((k : Int) + 1) (by omega) (by omega)
        have hN : numR l0 k = (k : Int) + 1 := by
          unfold numR numAt
          rw [if_pos hlt, List.getD_eq_getElem?_getD, List.getElem?_eq_getElem hlt, Option.getD_some, hv]
          rfl
        go_wp2_with fail
        refine (strconv_Itoa_20.calls ((k : Int) + 1) _ _ (HE.out.below hB.out.below) (by unfold strconv_Itoa_20.f; exact if_pos (by omega))).mono ?_
        rintro e w3 ⟨rfl, hb3⟩
        have hB3 := Aside0.mk (hB.out.on hb3)
        clear hb3
        by_cases hlong : (sayR l0 k).2.length + ((Lib.itoa ((k : Int) + 1)).length + 1) > 78
        · have hR : putR (sayR l0 k) ((k : Int) + 1) = ((sayR l0 k).1 ++ (sayR l0 k).2 ++ [10], [118] ++ wordN ((k : Int) + 1)) := by
            unfold putR
            rw [if_pos (by simp only [wordN, List.length_cons]; exact hlong)]
          go_wp2_with (first
            | (at_builtin; refine Row.append_string hB3.out rfl (.tmp 42) (.tmp 43) 36 9 rfl Tryd.underlying36 Tryd.underlying9 Go.Proofs.YtejdjmcdlbcmeaaDoor.B.infoByte rfl _ rfl (by show _ + (sayR l0 k).2.length ≤ _; omega) ?_; intro v6 w6 hr6 hg6; have HR6 := Aside0.mk hr6; clear hr6 hg6)
            | (at_builtin; refine Row.append_slice (HR6.out.alloc _) rfl (.tmp 45) (.tmp 46) 36 rfl Tryd.underlying36 Go.Proofs.YtejdjmcdlbcmeaaDoor.B.infoByte rfl 10 10 rfl ⟨w6.heap.size, 0, none⟩ 1 rfl (by simp [Addr.add, World.cell?_alloc_new]) (by rw [List.length_append]; show _ + (sayR l0 k).2.length + 1 ≤ _; omega) ?_; intro v7 w7 hr7 hg7; have HR7 := Aside0.mk hr7; clear hr7 hg7))
          go_roundw
          case rel =>
            refine ⟨k + 1, by omega, by go_num, ?_, ⟨?_⟩⟩
            · rw [sayR, hN, hR]; simp only [wordN]; exact congrArg Value.string (by apply ByteArray.ext; simp)
            · rw [sayR, hN, hR]; exact HR7.out
          case measure => simp [intOf]; omega
        · have hR : putR (sayR l0 k) ((k : Int) + 1) = ((sayR l0 k).1, (sayR l0 k).2 ++ wordN ((k : Int) + 1)) := by
            unfold putR
            rw [if_neg (by simp only [wordN, List.length_cons]; exact hlong)]
          go_wp2_with fail
          go_roundw
          case rel =>
            refine ⟨k + 1, by omega, by go_num, ?_, ⟨?_⟩⟩
            · rw [sayR, hN, hR]; simp only [wordN]; exact congrArg Value.string (by apply ByteArray.ext; simp)
            · rw [sayR, hN, hR]; exact hB3.out
          case measure => simp [intOf]; omega
      | false =>
        rw [hv] at hx
        have hxl := Lib.itoa_length_le (-((k : Int) + 1)) (by omega) (by omega)
        have hN : numR l0 k = -((k : Int) + 1) := by
          unfold numR numAt
          rw [if_pos hlt, List.getD_eq_getElem?_getD, List.getElem?_eq_getElem hlt, Option.getD_some, hv]
          show -(k : Int) - 1 = _; omega
        go_wp2_with fail
        refine (strconv_Itoa_20.calls (-((k : Int) + 1)) _ _ (HE.out.below hB.out.below) (by unfold strconv_Itoa_20.f; exact if_pos (by omega))).mono ?_
        rintro e w3 ⟨rfl, hb3⟩
        have hB3 := Aside0.mk (hB.out.on hb3)
        clear hb3
        by_cases hlong : (sayR l0 k).2.length + ((Lib.itoa (-((k : Int) + 1))).length + 1) > 78
        · have hR : putR (sayR l0 k) (-((k : Int) + 1)) = ((sayR l0 k).1 ++ (sayR l0 k).2 ++ [10], [118] ++ wordN (-((k : Int) + 1))) := by
            unfold putR
            rw [if_pos (by simp only [wordN, List.length_cons]; exact hlong)]
          go_wp2_with (first
            | (at_builtin; refine Row.append_string hB3.out rfl (.tmp 42) (.tmp 43) 36 9 rfl Tryd.underlying36 Tryd.underlying9 Go.Proofs.YtejdjmcdlbcmeaaDoor.B.infoByte rfl _ rfl (by show _ + (sayR l0 k).2.length ≤ _; omega) ?_; intro v6 w6 hr6 hg6; have HR6 := Aside0.mk hr6; clear hr6 hg6)
            | (at_builtin; refine Row.append_slice (HR6.out.alloc _) rfl (.tmp 45) (.tmp 46) 36 rfl Tryd.underlying36 Go.Proofs.YtejdjmcdlbcmeaaDoor.B.infoByte rfl 10 10 rfl ⟨w6.heap.size, 0, none⟩ 1 rfl (by simp [Addr.add, World.cell?_alloc_new]) (by rw [List.length_append]; show _ + (sayR l0 k).2.length + 1 ≤ _; omega) ?_; intro v7 w7 hr7 hg7; have HR7 := Aside0.mk hr7; clear hr7 hg7))
          go_roundw
          case rel =>
            refine ⟨k + 1, by omega, by go_num, ?_, ⟨?_⟩⟩
            · rw [sayR, hN, hR]; simp only [wordN]; exact congrArg Value.string (by apply ByteArray.ext; simp)
            · rw [sayR, hN, hR]; exact HR7.out
          case measure => simp [intOf]; omega
        · have hR : putR (sayR l0 k) (-((k : Int) + 1)) = ((sayR l0 k).1, (sayR l0 k).2 ++ wordN (-((k : Int) + 1))) := by
            unfold putR
            rw [if_neg (by simp only [wordN, List.length_cons]; exact hlong)]
          go_wp2_with fail
          go_roundw
          case rel =>
            refine ⟨k + 1, by omega, by go_num, ?_, ⟨?_⟩⟩
            · rw [sayR, hN, hR]; simp only [wordN]; exact congrArg Value.string (by apply ByteArray.ext; simp)
            · rw [sayR, hN, hR]; exact hB3.out
          case measure => simp [intOf]; omega
    · by_cases he : k = l0.length
      · obtain rfl := he
        have hxl := Lib.itoa_length_le (0) (by omega) (by omega)
        have hN : numR l0 l0.length = 0 := by
          unfold numR
          rw [if_neg hlt]
        go_wp2_with fail
        refine (strconv_Itoa_20.calls (0) _ _ (HE.out.below hB.out.below) (by unfold strconv_Itoa_20.f; exact if_pos (by omega))).mono ?_
        rintro e w3 ⟨rfl, hb3⟩
        have hB3 := Aside0.mk (hB.out.on hb3)
        clear hb3
        by_cases hlong : (sayR l0 l0.length).2.length + ((Lib.itoa (0)).length + 1) > 78
        · have hR : putR (sayR l0 l0.length) (0) = ((sayR l0 l0.length).1 ++ (sayR l0 l0.length).2 ++ [10], [118] ++ wordN (0)) := by
            unfold putR
            rw [if_pos (by simp only [wordN, List.length_cons]; exact hlong)]
          go_wp2_with (first
            | (at_builtin; refine Row.append_string hB3.out rfl (.tmp 42) (.tmp 43) 36 9 rfl Tryd.underlying36 Tryd.underlying9 Go.Proofs.YtejdjmcdlbcmeaaDoor.B.infoByte rfl _ rfl (by show _ + (sayR l0 l0.length).2.length ≤ _; omega) ?_; intro v6 w6 hr6 hg6; have HR6 := Aside0.mk hr6; clear hr6 hg6)
            | (at_builtin; refine Row.append_slice (HR6.out.alloc _) rfl (.tmp 45) (.tmp 46) 36 rfl Tryd.underlying36 Go.Proofs.YtejdjmcdlbcmeaaDoor.B.infoByte rfl 10 10 rfl ⟨w6.heap.size, 0, none⟩ 1 rfl (by simp [Addr.add, World.cell?_alloc_new]) (by rw [List.length_append]; show _ + (sayR l0 l0.length).2.length + 1 ≤ _; omega) ?_; intro v7 w7 hr7 hg7; have HR7 := Aside0.mk hr7; clear hr7 hg7))
          go_roundw
          case rel =>
            refine ⟨l0.length + 1, by omega, by go_num, ?_, ⟨?_⟩⟩
            · rw [sayR, hN, hR]; simp only [wordN]; exact congrArg Value.string (by apply ByteArray.ext; simp)
            · rw [sayR, hN, hR]; exact HR7.out
          case measure => simp [intOf]
        · have hR : putR (sayR l0 l0.length) (0) = ((sayR l0 l0.length).1, (sayR l0 l0.length).2 ++ wordN (0)) := by
            unfold putR
            rw [if_neg (by simp only [wordN, List.length_cons]; exact hlong)]
          go_wp2_with fail
          go_roundw
          case rel =>
            refine ⟨l0.length + 1, by omega, by go_num, ?_, ⟨?_⟩⟩
            · rw [sayR, hN, hR]; simp only [wordN]; exact congrArg Value.string (by apply ByteArray.ext; simp)
            · rw [sayR, hN, hR]; exact hB3.out
          case measure => simp [intOf]
      · obtain rfl : k = l0.length + 1 := by omega
        go_wp2_with (first
          | (at_builtin; refine Row.append_string hB.out rfl (.tmp 51) (.tmp 52) 36 9 rfl Tryd.underlying36 Tryd.underlying9 Go.Proofs.YtejdjmcdlbcmeaaDoor.B.infoByte rfl _ rfl (by show _ + (sayR l0 (l0.length + 1)).2.length ≤ _; omega) ?_; intro v6 w6 hr6 hg6; have HR6 := Aside0.mk hr6; clear hr6 hg6)
          | (at_builtin; refine Row.append_slice (HR6.out.alloc _) rfl (.tmp 54) (.tmp 55) 36 rfl Tryd.underlying36 Go.Proofs.YtejdjmcdlbcmeaaDoor.B.infoByte rfl 10 10 rfl ⟨w6.heap.size, 0, none⟩ 1 rfl (by simp [Addr.add, World.cell?_alloc_new]) (by rw [List.length_append]; show _ + (sayR l0 (l0.length + 1)).2.length + 1 ≤ _; omega) ?_; intro v7 w7 hr7 hg7; have HR7 := Aside0.mk hr7; have hstr := Row.string (P := Tryd.prog) (src := 36) (dst := 9) hr7 Tryd.underlying36 Tryd.underlying5 Tryd.underlying9 (by rw [List.length_append, List.length_append]; show _ + (sayR l0 (l0.length + 1)).2.length + 1 ≤ _; omega); clear hr7 hg7))
        go_ret
        refine ⟨?_, HR7.out.below⟩
        rw [← HRR.out]
        have eT : saysT true l0 = (sayR l0 (l0.length + 1)).1 ++ ((sayR l0 (l0.length + 1)).2 ++ [10]) := by rw [sayR_last]; simp [saysT, List.append_assoc]
        rw [eT]
        trace_state
        rfl

theorem depotref03_WriteAnswer.calls (a0 : Bool) (A1 : Option Addr) (c1 : Nat) (l1 : List Bool) (r : ByteArray) (w : World) (hr1 : Kd.C Kd.bool w A1 l1.length l1) (hc1 : l1.length ≤ c1) (hE : Env w) (h : depotref03_WriteAnswer.f a0 l1 = some r) :
    Calls Tryd.prog 14 #[.bool a0, .slice A1 l1.length c1] w fun e w' => e = .returned (.string r) ∧ Below w.heap.size w w' := by
  unfold depotref03_WriteAnswer.f at h
  by_cases hh : l1.length ≤ 1048576
  · rw [if_pos hh] at h
    have h' := Option.some.inj h
    cases a0 with
    | true => exact refSays_walk A1 c1 l1 r w hr1 hc1 hE hh h'
    | false =>
      obtain rfl := h'
      go_enter Tryd.func14, Tryd.ntmps14
      go_wp2_with fail
      go_ret
      exact ⟨rfl, Below.refl _ _⟩
  · rw [if_neg hh] at h
    cases h
end Go.Proofs.YtejdjmcdlbcmeaaDoor.P
