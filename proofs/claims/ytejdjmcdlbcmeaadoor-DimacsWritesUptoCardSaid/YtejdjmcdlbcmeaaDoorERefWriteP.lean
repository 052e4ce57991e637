/- What depot/depotref03.Write comes to: the text of the formula, or the refusal. No conditions. -/
import Derived.Test.YtejdjmcdlbcmeaaDoorEDimWriteP
import Derived.Test.YtejdjmcdlbcmeaaDoorMarked
import Derived.Deep.RegionWith
set_option linter.unusedVariables false
set_option linter.unusedSimpArgs false
namespace Go.Proofs.YtejdjmcdlbcmeaaDoor.P
open Go.RowKit Go.Proofs.YtejdjmcdlbcmeaaDoorW.PrintWords Go.Proofs.YtejdjmcdlbcmeaaDoorW.PrintLast Go.Proofs.YtejdjmcdlbcmeaaDoorW.PrintMore
open Go.Proofs.YtejdjmcdlbcmeaaDoor.M (Row)

/-- What depot/depotref03.Write comes to. -/
def depotref03_Write.f (v : Int) (l : List (List Int)) : Option (ByteArray × Int) := if l.length ≤ 1048576 ∧ ∀ s ∈ l, s.length ≤ 1048576 then some (dimR v l) else none

set_option maxHeartbeats 8000000 in
set_option maxRecDepth 100000 in
theorem refWrite_walk (v : Int) (A0 : Option Addr) (c0 : Nat) (l0 : List (List Int)) (r : ByteArray × Int) (w : World) (hr0 : Kd.C (Kd.slice 3 (Kd.int .i64)) w A0 l0.length l0) (hc0 : l0.length ≤ c0) (hE : Env w) (hn : l0.length ≤ 1048576) (hm : ∀ s ∈ l0, s.length ≤ 1048576) (hr : dimR v l0 = r) :
    Calls Tryd.prog 17 #[.agg #[.int .i64 v, .slice A0 l0.length c0]] w fun e w' => e = .returned (.tuple #[.string r.1, .int .i64 r.2]) ∧ Below w.heap.size w w' := by
  have hu28 := Tryd.underlying28
  have HR := Aside0.mk hr0
  have HC := Aside0.mk hc0
  have HE := Aside0.mk hE
  have HM := Aside0.mk hm
  have HRR := Aside0.mk hr
  clear hr0 hc0 hE hm hr
  go_enter Tryd.func17, Tryd.ntmps17
  go_wp2_with fail
  refine (depotref02_Formed.calls (l0.length + 1048576 + 3) v A0 c0 l0 (formOk v l0) _ (by (with_reducible repeat (first | apply Kd.C_alloc | apply Kd.C_drewN | apply Kd.C_drew)); exact HR.out) HC.out (refFormedF_is v l0 1048576 HM.out (by omega) (by omega) _ (by omega))).mono ?_
  rintro e w1 ⟨rfl, hb1⟩
  have HB1 := Aside0.mk hb1
  clear hb1
  have hbw : Below w.heap.size w w1 := by
    have := (Below.refl w.heap.size w).alloc (Nat.le_refl _) (.cells #[.int .i64 v, .slice A0 l0.length c0] 28)
    exact this.trans (HB1.out.mono (by simp))
  cases hok : formOk v l0 with
  | false =>
    go_wp2_with fail
    go_ret2
    have hR : dimR v l0 = (⟨#[]⟩, 1) := by
      unfold dimR
      rw [if_neg (by rw [hok]; decide)]
    rw [← HRR.out, hR]
    exact ⟨rfl, hbw⟩
  | true =>
    obtain ⟨hv0, hv1, hlits⟩ := formOk_parts hok
    go_wp2_with fail
    have f0 : w1.cell? ⟨w.heap.size, 0, none⟩ = some (.int .i64 v) := by rw [HB1.out.cell (by simp)]; simp [World.cell?_alloc_new]
    have f1 : w1.cell? ⟨w.heap.size, 1, none⟩ = some (.slice A0 l0.length c0) := by rw [HB1.out.cell (by simp)]; simp [World.cell?_alloc_new]
    have hlt1 : w.heap.size < w1.heap.size := World.block_lt_of_cell? w1 _ f0
    have hxv := Lib.itoa_length_le v (by omega) (by omega)
    have hxn := Lib.itoa_length_le (l0.length : Int) (by omega) (by omega)
    have HEn := HE.out.below hbw
    have HEH := Aside0.mk (show ((⟨#[112, 32, 99, 110, 102, 32]⟩ : ByteArray) ++ ⟨(Lib.itoa v).toArray⟩ ++ ⟨#[32]⟩ ++ ⟨(Lib.itoa (l0.length : Int)).toArray⟩ ++ ⟨#[10]⟩).data.toList = headF v l0.length by simp [headF])
    have HSZ := Aside0.mk (show ((⟨#[112, 32, 99, 110, 102, 32]⟩ : ByteArray) ++ ⟨(Lib.itoa v).toArray⟩ ++ ⟨#[32]⟩ ++ ⟨(Lib.itoa (l0.length : Int)).toArray⟩ ++ ⟨#[10]⟩).size = 6 + (Lib.itoa v).length + 1 + (Lib.itoa (l0.length : Int)).length + 1 by simp only [ByteArray.size_append]; rfl)
    have HZH := Aside0.mk (show ((⟨#[112, 32, 99, 110, 102, 32]⟩ : ByteArray) ++ ⟨(Lib.itoa v).toArray⟩ ++ ⟨#[32]⟩ ++ ⟨(Lib.itoa (l0.length : Int)).toArray⟩ ++ ⟨#[10]⟩).size ≤ 140737488355328 by simp only [ByteArray.size_append]; show (6 + (Lib.itoa v).length + 1 + (Lib.itoa (l0.length : Int)).length + 1) ≤ _; omega)
    have kp : ∀ W, Below w1.heap.size w1 W → W.cell? ⟨w.heap.size, 0, none⟩ = some (.int .i64 v) ∧ W.cell? ⟨w.heap.size, 1, none⟩ = some (.slice A0 l0.length c0) := fun W h => ⟨(h.cell hlt1).trans f0, (h.cell hlt1).trans f1⟩
    have KP := Aside0.mk kp
    have HEN := Aside0.mk HEn
    have hconv := fun w s => Lib.run_convert_string_bytes (P := Tryd.prog) w 9 36 5 s Tryd.underlying9 Tryd.underlying36 Tryd.underlying5
    clear kp HEn
    have hq1 : ¬ (9223372036854775807 < 6 + (Lib.itoa v).length) := by omega
    have hq2 : ¬ (9223372036854775807 < 6 + (Lib.itoa v).length + 1) := by omega
    have hq3 : ¬ (9223372036854775807 < 6 + (Lib.itoa v).length + 1 + (Lib.itoa (l0.length : Int)).length) := by omega
    have hq4 : ¬ (9223372036854775807 < 6 + (Lib.itoa v).length + 1 + (Lib.itoa (l0.length : Int)).length + 1) := by omega
    go_cut [4] (fun v4 wx => Aside0 (Row 5 w1 (headF v l0.length) v4 wx))
    case first =>
      go_region_with
        (first
          | (go_at_call 20; (with_reducible refine (strconv_Itoa_20.calls v _ _ (HEN.out.below (Below.refl _ _).drew) (by unfold strconv_Itoa_20.f; exact if_pos (by omega))).mono ?_); rintro e w2 ⟨rfl, hb2⟩; have HX := Aside0.mk ((Below.refl w1.heap.size w1).drew.trans hb2); have g2 := (KP.out _ HX.out).2; clear hb2)
          | (go_at_call 20; (with_reducible refine (strconv_Itoa_20.calls (l0.length : Int) _ _ (HEN.out.below HX.out) (by unfold strconv_Itoa_20.f; exact if_pos (by omega))).mono ?_); rintro e w3 ⟨rfl, hb3⟩; have HY := Aside0.mk (HX.out.trans (hb3.mono HX.out.size)); clear hb3))
      all_goals (go_wp2_with fail; go_meet; exact ⟨by rw [← HEH.out, ← HSZ.out]; exact Row.made (e := 5) HY.out _ HZH.out⟩)
    case rest =>
      have HS := hcut
      clear hconv
      have g1 := (KP.out wc HS.out.below).2
      go_wp2_with fail
      clear g1
      go_loopw [4, 5] (fun s i wr => ∃ k : Nat, k ≤ l0.length ∧ i = .int .i64 k ∧ Aside0 (Row 5 w1 (headF v l0.length ++ clausesT (l0.take k)) s wr)) (fun _ i _ => l0.length - (intOf i).toNat)
      case atStart => exact ⟨0, Nat.zero_le _, rfl, ⟨by simpa [clausesT] using HS.out⟩⟩
      case round =>
        obtain ⟨k, hk, rfl, hB⟩ := hrel
        have hbw2 := Aside0.mk (hbw.trans (hB.out.below.mono hbw.size))
        have g1 := (KP.out _ hB.out.below).2
        by_cases hlt : k < l0.length
        · obtain ⟨ad, A1, c1, rfl, hx1, hl1, hC1⟩ := at_L2 HR.out (k : Int) (by omega) (by omega)
          have HL1 := Aside0.mk hl1
          have HC1 := Aside0.mk hC1
          have HX1 := Aside0.mk hx1
          clear hl1 hC1 hx1
          rw [rdL_nat hlt] at HL1 HC1 HX1
          have hsm := HM.out l0[k] (List.getElem_mem hlt)
          have hs := hlits l0[k] (List.getElem_mem hlt)
          have hsz := clausesT_length (l0.take k) 1048576 (fun s h => HM.out s (List.mem_of_mem_take h)) (fun s h => hlits s (List.mem_of_mem_take h))
          have hbig : (clausesT (l0.take k)).length ≤ 1048576 * (22 * 1048576 + 2) := Nat.le_trans hsz (Nat.mul_le_mul_right _ (by rw [List.length_take]; omega))
          have hhd := headF_length v l0.length hv0 hv1 hn
          clear hsz
          go_wp2_with fail
          clear g1
          go_loopw [4, 6] (fun s j w3 => ∃ m : Nat, m ≤ l0[k].length ∧ j = .int .i64 m ∧ Aside0 (Row 5 w1 (headF v l0.length ++ clausesT (l0.take k) ++ wordsT (l0[k].take m)) s w3)) (fun _ j _ => l0[k].length - (intOf j).toNat)
          case atStart => exact ⟨0, Nat.zero_le _, rfl, ⟨by simpa [wordsT] using hB.out⟩⟩
          case round =>
            obtain ⟨m, hmle, rfl, hB3⟩ := hrel
            have hwl := wordsT_length (l0[k].take m) (List.all_eq_true.2 fun x hx => List.all_eq_true.1 hs x (List.mem_of_mem_take hx))
            rw [List.length_take] at hwl
            have hlen3 : (headF v l0.length ++ clausesT (l0.take k) ++ wordsT (l0[k].take m)).length ≤ 1048576 * (22 * 1048576 + 2) + 50 + 22 * 1048576 := by
              rw [List.length_append, List.length_append]; omega
            have hbw3 := Aside0.mk (hbw.trans (hB3.out.below.mono hbw.size))
            have g1 := (KP.out _ hB3.out.below).2
            have hx1 := (hbw3.out.cell (World.block_lt_of_cell? w _ HX1.out)).trans HX1.out
            simp only [Int.toNat_natCast] at hx1
            by_cases hmt : m < l0[k].length
            · obtain ⟨ad2, e2, hy⟩ := Kd.at_int (Kd.C_below HC1.out hbw3.out) (m : Int) (by omega) (by omega)
              subst e2
              rw [rd_nat hmt] at hy
              simp only [Int.toNat_natCast] at hy
              have hxr := litOk_range (List.all_eq_true.1 hs l0[k][m] (List.getElem_mem hmt))
              have hxl := Lib.itoa_length_le l0[k][m] (by omega) (by omega)
              go_wp2_with fail
              clear g1 hx1 hy
              refine (strconv_Itoa_20.calls l0[k][m] _ _ (HE.out.below hbw3.out) (by unfold strconv_Itoa_20.f; exact if_pos (by omega))).mono ?_
              rintro e w5 ⟨rfl, hb5⟩
              have hB5 := Aside0.mk (hB3.out.on hb5)
              go_wp2_with (first
                | (at_builtin; refine Row.append_string hB5.out rfl (.tmp 39) (.tmp 48) 36 9 rfl Tryd.underlying36 Tryd.underlying9 Go.Proofs.YtejdjmcdlbcmeaaDoor.B.infoByte rfl _ rfl (by show _ + (Lib.itoa l0[k][m]).length ≤ _; omega) ?_; intro v6 w6 hr6 hg6; have HR6 := Aside0.mk hr6; clear hr6 hg6)
                | (at_builtin; refine Row.append_slice (HR6.out.alloc _) rfl (.tmp 50) (.tmp 51) 36 rfl Tryd.underlying36 Go.Proofs.YtejdjmcdlbcmeaaDoor.B.infoByte rfl 32 32 rfl ⟨w6.heap.size, 0, none⟩ 1 rfl (by simp [Addr.add, World.cell?_alloc_new]) (by rw [List.length_append]; show _ + (Lib.itoa l0[k][m]).length + 1 ≤ _; omega) ?_; intro v7 w7 hr7 hg7; have HR7 := Aside0.mk hr7; clear hr7 hg7))
              go_roundw
              case rel => exact ⟨m + 1, by omega, by go_num, ⟨by rw [take_succ' hmt, wordsT_snoc, ← List.append_assoc, ← List.append_assoc]; exact HR7.out⟩⟩
              case measure => simp [intOf]; omega
            · obtain rfl : m = l0[k].length := by omega
              rw [List.take_length] at hB3
              go_wp2_with (first
                | (at_builtin; refine Row.append_string hB3.out rfl (.tmp 53) (.const (.string ⟨#[48, 10]⟩)) 36 9 rfl Tryd.underlying36 Tryd.underlying9 Go.Proofs.YtejdjmcdlbcmeaaDoor.B.infoByte rfl _ rfl (by rw [List.take_length] at hlen3; show _ + 2 ≤ _; omega) ?_; intro v6 w6 hr6 hg6; have HR6 := Aside0.mk hr6; clear hr6 hg6))
              go_roundw
              case rel =>
                refine ⟨k + 1, by omega, by go_num, ⟨?_⟩⟩
                rw [take_succ' hlt, clausesT_snoc, clauseT, ← List.append_assoc, ← List.append_assoc]
                exact HR6.out
              case measure => simp [intOf]; omega
        · obtain rfl : k = l0.length := by omega
          rw [List.take_length] at hB
          have hsz := clausesT_length l0 1048576 HM.out hlits
          have hbig : (clausesT l0).length ≤ 1048576 * (22 * 1048576 + 2) := Nat.le_trans hsz (Nat.mul_le_mul_right _ hn)
          have hhd := headF_length v l0.length hv0 hv1 hn
          have hstr := Row.string (P := Tryd.prog) (src := 36) (dst := 9) hB.out Tryd.underlying36 Tryd.underlying5 Tryd.underlying9 (by rw [List.length_append]; omega)
          go_wp2_with fail
          go_ret2
          have hR : dimR v l0 = (⟨(formT v l0).toArray⟩, 0) := by
            unfold dimR
            rw [if_pos hok]
          rw [← HRR.out, hR]
          exact ⟨rfl, hbw2.out⟩

theorem depotref03_Write.calls (a0_0 : Int) (A0_1 : Option Addr) (c0_1 : Nat) (l0_1 : List (List Int)) (r1 : ByteArray) (r2 : Int) (w : World) (hr0_1 : Kd.C (Kd.slice 3 (Kd.int .i64)) w A0_1 l0_1.length l0_1) (hc0_1 : l0_1.length ≤ c0_1) (hE : Env w) (h : depotref03_Write.f a0_0 l0_1 = some (r1, r2)) :
    Calls Tryd.prog 17 #[.agg #[.int .i64 a0_0, .slice A0_1 l0_1.length c0_1]] w fun e w' => e = .returned (.tuple #[.string r1, .int .i64 r2]) ∧ Below w.heap.size w w' := by
  unfold depotref03_Write.f at h
  by_cases hh : l0_1.length ≤ 1048576 ∧ ∀ s ∈ l0_1, s.length ≤ 1048576
  · rw [if_pos hh] at h
    exact refWrite_walk a0_0 A0_1 c0_1 l0_1 (r1, r2) w hr0_1 hc0_1 hE hh.1 hh.2 (Option.some.inj h)
  · rw [if_neg hh] at h
    cases h
end Go.Proofs.YtejdjmcdlbcmeaaDoor.P
