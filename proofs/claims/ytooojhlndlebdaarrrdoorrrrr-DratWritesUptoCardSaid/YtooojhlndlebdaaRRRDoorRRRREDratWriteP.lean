/- What depot/drat.Write comes to: the text of the steps, or the refusal. No conditions. -/
import Derived.Test.YtooojhlndlebdaaRRRDoorRRRRPSound
import Derived.Test.YtooojhlndlebdaaRRRDoorRRRRBuilder
import Derived.Test.YtooojhlndlebdaaRRRDoorRRRREItoaP
import Derived.Lib.ItoaLen
set_option linter.unusedVariables false
set_option linter.unusedSimpArgs false
namespace Go.Proofs.YtooojhlndlebdaaRRRDoorRRRR.P
open Go.RowKit Go.Proofs.YtooojhlndlebdaaRRRDoorRRRRW.PrintWords Go.Proofs.YtooojhlndlebdaaRRRDoorRRRRW.PrintLast Go.Proofs.YtooojhlndlebdaaRRRDoorRRRRW.PrintMore
open Go.Proofs.YtooojhlndlebdaaRRRDoorRRRR.B (Bld)

theorem rdT_nat {xs : List S33} {n : Nat} (h : n < xs.length) : rd_T33 xs (n : Int) = xs[n] := by
  unfold rd_T33
  rw [Int.toNat_natCast, List.getD_eq_getElem?_getD, List.getElem?_eq_getElem h]
  rfl
/-- The text of literals, of a step, of steps. -/
def wordsT (l : List Int) : List UInt8 := l.flatMap fun x => Lib.itoa x ++ [32]
def headT (b : Bool) : List UInt8 := if b then [100, 32] else []
def stepT (s : S33) : List UInt8 := headT s.f0 ++ wordsT s.f1 ++ [48, 10]
def stepsT (l : List S33) : List UInt8 := l.flatMap stepT
theorem wordsT_snoc (l : List Int) (x : Int) : wordsT (l ++ [x]) = wordsT l ++ (Lib.itoa x ++ [32]) := by unfold wordsT; rw [List.flatMap_append]; simp
theorem stepsT_snoc (l : List S33) (s : S33) : stepsT (l ++ [s]) = stepsT l ++ stepT s := by unfold stepsT; rw [List.flatMap_append]; simp
theorem litOk_range {x : Int} (h : litOk x = true) : -1048576 ≤ x ∧ x ≤ 1048576 := by simp [litOk] at h; omega
theorem wordsT_length (l : List Int) (h : l.all litOk = true) : (wordsT l).length ≤ 22 * l.length := by
  induction l with
  | nil => simp [wordsT]
  | cons x l ih =>
    rw [List.all_cons, Bool.and_eq_true] at h
    have h1 := litOk_range h.1
    have h2 := Lib.itoa_length_le x (by omega) (by omega)
    have h3 := ih h.2
    simp only [wordsT, List.flatMap_cons, List.length_append, List.length_cons, List.length_nil] at h3 ⊢
    omega
def soundS (s : S33) : Bool := s.f1.all litOk
theorem stepsT_length (l : List S33) (m : Nat) (hm : ∀ s ∈ l, s.f1.length ≤ m) (h : ∀ s ∈ l, soundS s = true) : (stepsT l).length ≤ l.length * (22 * m + 4) := by
  induction l with
  | nil => simp [stepsT]
  | cons s l ih =>
    have h1 := ih (fun s hs => hm s (List.mem_cons_of_mem _ hs)) (fun s hs => h s (List.mem_cons_of_mem _ hs))
    have h2 := hm s List.mem_cons_self
    have h3 := wordsT_length s.f1 (h s List.mem_cons_self)
    simp only [stepsT, List.flatMap_cons, List.length_append, List.length_cons] at h1 ⊢
    have : (stepT s).length ≤ 22 * m + 4 := by
      simp only [stepT, headT, List.length_append, List.length_cons, List.length_nil]
      split <;> simp <;> omega
    rw [Nat.add_mul]
    omega
def dratR (l : List S33) : ByteArray × Int := if l.all soundS then (⟨(stepsT l).toArray⟩, 0) else (⟨#[]⟩, 1)
/-- What depot/drat.Write comes to. -/
def drat_Write.f (l0 : List S33) : Option (ByteArray × Int) := if l0.length ≤ 1048576 ∧ ∀ s ∈ l0, s.f1.length ≤ 1048576 then some (dratR l0) else none

set_option maxHeartbeats 8000000 in
set_option maxRecDepth 100000 in
theorem write_walk (A0 : Option Addr) (c0 : Nat) (l0 : List S33) (r : ByteArray × Int) (w : World) (hr0 : Kd.C k33 w A0 l0.length l0) (hc0 : l0.length ≤ c0) (hE : Env w) (hn : l0.length ≤ 1048576) (hm : ∀ s ∈ l0, s.f1.length ≤ 1048576) (hr : dratR l0 = r) :
    Calls Tryd.prog 11 #[.slice A0 l0.length c0] w fun e w' => e = .returned (.tuple #[.string r.1, .int .i64 r.2]) ∧ Below w.heap.size w w' := by
  have HR := Aside0.mk hr0
  have HC := Aside0.mk hc0
  have HE := Aside0.mk hE
  have HM := Aside0.mk hm
  have HRR := Aside0.mk hr
  clear hr0 hc0 hE hm hr
  go_enter Tryd.func11, Tryd.ntmps11
  go_wp2_with fail
  go_loopw [11] (fun i wr => ∃ k : Nat, k ≤ l0.length ∧ i = .int .i64 k ∧ Aside0 ((∀ s ∈ l0.take k, soundS s = true) ∧ Bld w (stepsT (l0.take k)) wr)) (fun i _ => l0.length - (intOf i).toNat)
  case atStart => exact ⟨0, Nat.zero_le _, rfl, ⟨⟨by simp, Bld.start w⟩⟩⟩
  case round =>
    obtain ⟨k, hk, rfl, hB⟩ := hrel
    by_cases hlt : k < l0.length
    · obtain ⟨ad, A1, c1, rfl, hx0, hx1, hl1, hC1⟩ := at_T33 HR.out (k : Int) (by omega) (by omega)
      replace hx0 := (hB.out.2.below.cell (World.block_lt_of_cell? w _ hx0)).trans hx0
      replace hx1 := (hB.out.2.below.cell (World.block_lt_of_cell? w _ hx1)).trans hx1
      simp only [Int.toNat_natCast] at hx0 hx1
      have HL1 := Aside0.mk hl1
      have HC1 := Aside0.mk hC1
      clear hl1 hC1
      rw [rdT_nat hlt] at hx0 hx1 HL1 HC1
      have hsm := HM.out l0[k] (List.getElem_mem hlt)
      cases hs : soundS l0[k] with
      | false =>
        go_wp2_with fail
        refine (lits_Sound.calls (l0[k].f1.length + 1) A1 c1 l0[k].f1 false _ (Kd.C_alloc (Kd.C_below HC1.out hB.out.2.below) _) HL1.out (by rw [sound_is _ (by omega) _ (by omega)]; exact congrArg some hs)).mono ?_
        rintro e w' ⟨rfl, ⟨nd, rfl⟩⟩
        go_wp2_with fail
        go_ret2
        have hR : dratR l0 = (⟨#[]⟩, 1) := by
          unfold dratR
          rw [if_neg]
          intro h
          have := List.all_eq_true.1 h l0[k] (List.getElem_mem hlt)
          rw [hs] at this
          cases this
        rw [← HRR.out, hR]
        refine ⟨rfl, ?_⟩
        repeat (first | (with_reducible first | exact hB.out.2.below | apply below_alloc | apply pw_below_drewN | apply below_drew1) | exact hB.out.2.below)
      | true =>
        have hsz := stepsT_length (l0.take k) 1048576 (fun s h => HM.out s (List.mem_of_mem_take h)) hB.out.1
        have hbig : (stepsT (l0.take k)).length ≤ 1048576 * (22 * 1048576 + 4) := Nat.le_trans hsz (Nat.mul_le_mul_right _ (by rw [List.length_take]; omega))
        clear hsz
        cases hd : l0[k].f0 with
        | false =>
          rw [hd] at hx0
          go_wp2_with fail
          refine (lits_Sound.calls (l0[k].f1.length + 1) A1 c1 l0[k].f1 true _ (Kd.C_alloc (Kd.C_below HC1.out hB.out.2.below) _) HL1.out (by rw [sound_is _ (by omega) _ (by omega)]; exact congrArg some hs)).mono ?_
          rintro e w' ⟨rfl, ⟨nd, rfl⟩⟩
          go_wp2_with fail
          have hb2 : Bld w (stepsT (l0.take k) ++ headT l0[k].f0) ((wr.alloc (.cells #[.bool false, .slice A1 l0[k].f1.length c1] 33)).drewN nd) := by
            rw [hd]
            simpa [headT] using (hB.out.2.alloc _).on (pw_below_drewN (Below.refl _ _) _)
          replace hb2 : Bld w (stepsT (l0.take k) ++ headT l0[k].f0) _ := hb2
          go_loopw [25] (fun j w3 => ∃ m : Nat, m ≤ l0[k].f1.length ∧ j = .int .i64 m ∧ Aside0 (Bld w (stepsT (l0.take k) ++ headT l0[k].f0 ++ wordsT (l0[k].f1.take m)) w3)) (fun j _ => l0[k].f1.length - (intOf j).toNat)
          case atStart => exact ⟨0, Nat.zero_le _, rfl, ⟨by simpa [wordsT] using hb2⟩⟩
          case round =>
            obtain ⟨m, hmle, rfl, hB3⟩ := hrel
            have hwl := wordsT_length (l0[k].f1.take m) (List.all_eq_true.2 fun x hx => List.all_eq_true.1 hs x (List.mem_of_mem_take hx))
            rw [List.length_take] at hwl
            have hhl : (headT l0[k].f0).length ≤ 2 := by rw [hd]; decide
            have hlen3 : (stepsT (l0.take k) ++ headT l0[k].f0 ++ wordsT (l0[k].f1.take m)).length ≤ 1048576 * (22 * 1048576 + 4) + 2 + 22 * 1048576 := by
              rw [List.length_append, List.length_append]; omega
            by_cases hmt : m < l0[k].f1.length
            · obtain ⟨ad2, e2, hy⟩ := Kd.at_int (Kd.C_below HC1.out hB3.out.below) (m : Int) (by omega) (by omega)
              subst e2
              rw [rd_nat hmt] at hy
              simp only [Int.toNat_natCast] at hy
              have hxr := litOk_range (List.all_eq_true.1 hs l0[k].f1[m] (List.getElem_mem hmt))
              have hxl := Lib.itoa_length_le l0[k].f1[m] (by omega) (by omega)
              go_wp2_with fail
              refine (strconv_Itoa_18.calls l0[k].f1[m] _ _ (HE.out.below hB3.out.below) (by unfold strconv_Itoa_18.f; exact if_pos (by omega))).mono ?_
              rintro e w5 ⟨rfl, hb5⟩
              have hB5 := Aside0.mk (hB3.out.on hb5)
              go_wp2_with fail
              refine (Bld.write hB5.out _ (by rw [show ∀ a b : ByteArray, (a ++ b).size = a.size + b.size from fun a b => ByteArray.size_append]; show _ + ((Lib.itoa l0[k].f1[m]).length + 1) ≤ _; omega)).mono ?_
              rintro e w6 ⟨rfl, hb6, hk6⟩
              go_wp2_with fail
              go_roundw
              case rel => exact ⟨m + 1, by omega, by go_num, ⟨by rw [take_succ' hmt, wordsT_snoc, ← List.append_assoc]; simpa using hb6⟩⟩
              case measure => simp [intOf]; omega
            · obtain rfl : m = l0[k].f1.length := by omega
              rw [List.take_length] at hB3
              go_wp2_with fail
              refine (Bld.write hB3.out _ (by rw [List.take_length] at hlen3; show _ + 2 ≤ _; omega)).mono ?_
              rintro e w6 ⟨rfl, hb6, hk6⟩
              go_wp2_with fail
              go_roundw
              case rel =>
                refine ⟨k + 1, by omega, by go_num, ⟨⟨fun s h => ?_, ?_⟩⟩⟩
                · rw [take_succ' hlt, List.mem_append, List.mem_singleton] at h
                  rcases h with h | rfl
                  · exact hB.out.1 s h
                  · exact hs
                · rw [take_succ' hlt, stepsT_snoc, stepT, ← List.append_assoc, ← List.append_assoc]
                  exact hb6
              case measure => simp [intOf]; omega
        | true =>
          rw [hd] at hx0
          go_wp2_with fail
          refine (lits_Sound.calls (l0[k].f1.length + 1) A1 c1 l0[k].f1 true _ (Kd.C_alloc (Kd.C_below HC1.out hB.out.2.below) _) HL1.out (by rw [sound_is _ (by omega) _ (by omega)]; exact congrArg some hs)).mono ?_
          rintro e w' ⟨rfl, ⟨nd, rfl⟩⟩
          go_wp2_with fail
          refine (Bld.write (xs := stepsT (l0.take k)) (w0 := w) ((hB.out.2.alloc _).on (pw_below_drewN (Below.refl _ _) _)) _ (by show (stepsT (l0.take k)).length + 2 ≤ _; omega)).mono ?_
          rintro e w2 ⟨rfl, hb2, hk2⟩
          have hz := hk2 wr.heap.size (.cells #[.bool true, .slice A1 l0[k].f1.length c1] 33) (heap_alloc_new wr _) (by have := hB.out.2.lt; simp; omega) (by intro c fz h; cases h)
          have hz0 : w2.cell? ⟨wr.heap.size, 0, none⟩ = some (.bool true) := by rw [Lib.cell_of_heap hz]; rfl
          have hz1 : w2.cell? ⟨wr.heap.size, 1, none⟩ = some (.slice A1 l0[k].f1.length c1) := by rw [Lib.cell_of_heap hz]; rfl
          go_wp2_with fail
          replace hb2 : Bld w (stepsT (l0.take k) ++ headT l0[k].f0) w2 := by rw [hd]; exact hb2
          go_loopw [25] (fun j w3 => ∃ m : Nat, m ≤ l0[k].f1.length ∧ j = .int .i64 m ∧ Aside0 (Bld w (stepsT (l0.take k) ++ headT l0[k].f0 ++ wordsT (l0[k].f1.take m)) w3)) (fun j _ => l0[k].f1.length - (intOf j).toNat)
          case atStart => exact ⟨0, Nat.zero_le _, rfl, ⟨by simpa [wordsT] using hb2⟩⟩
          case round =>
            obtain ⟨m, hmle, rfl, hB3⟩ := hrel
            have hwl := wordsT_length (l0[k].f1.take m) (List.all_eq_true.2 fun x hx => List.all_eq_true.1 hs x (List.mem_of_mem_take hx))
            rw [List.length_take] at hwl
            have hhl : (headT l0[k].f0).length ≤ 2 := by rw [hd]; decide
            have hlen3 : (stepsT (l0.take k) ++ headT l0[k].f0 ++ wordsT (l0[k].f1.take m)).length ≤ 1048576 * (22 * 1048576 + 4) + 2 + 22 * 1048576 := by
              rw [List.length_append, List.length_append]; omega
            by_cases hmt : m < l0[k].f1.length
            · obtain ⟨ad2, e2, hy⟩ := Kd.at_int (Kd.C_below HC1.out hB3.out.below) (m : Int) (by omega) (by omega)
              subst e2
              rw [rd_nat hmt] at hy
              simp only [Int.toNat_natCast] at hy
              have hxr := litOk_range (List.all_eq_true.1 hs l0[k].f1[m] (List.getElem_mem hmt))
              have hxl := Lib.itoa_length_le l0[k].f1[m] (by omega) (by omega)
              go_wp2_with fail
              refine (strconv_Itoa_18.calls l0[k].f1[m] _ _ (HE.out.below hB3.out.below) (by unfold strconv_Itoa_18.f; exact if_pos (by omega))).mono ?_
              rintro e w5 ⟨rfl, hb5⟩
              have hB5 := Aside0.mk (hB3.out.on hb5)
              go_wp2_with fail
              refine (Bld.write hB5.out _ (by rw [show ∀ a b : ByteArray, (a ++ b).size = a.size + b.size from fun a b => ByteArray.size_append]; show _ + ((Lib.itoa l0[k].f1[m]).length + 1) ≤ _; omega)).mono ?_
              rintro e w6 ⟨rfl, hb6, hk6⟩
              go_wp2_with fail
              go_roundw
              case rel => exact ⟨m + 1, by omega, by go_num, ⟨by rw [take_succ' hmt, wordsT_snoc, ← List.append_assoc]; simpa using hb6⟩⟩
              case measure => simp [intOf]; omega
            · obtain rfl : m = l0[k].f1.length := by omega
              rw [List.take_length] at hB3
              go_wp2_with fail
              refine (Bld.write hB3.out _ (by rw [List.take_length] at hlen3; show _ + 2 ≤ _; omega)).mono ?_
              rintro e w6 ⟨rfl, hb6, hk6⟩
              go_wp2_with fail
              go_roundw
              case rel =>
                refine ⟨k + 1, by omega, by go_num, ⟨⟨fun s h => ?_, ?_⟩⟩⟩
                · rw [take_succ' hlt, List.mem_append, List.mem_singleton] at h
                  rcases h with h | rfl
                  · exact hB.out.1 s h
                  · exact hs
                · rw [take_succ' hlt, stepsT_snoc, stepT, ← List.append_assoc, ← List.append_assoc]
                  exact hb6
              case measure => simp [intOf]; omega
    · obtain rfl : k = l0.length := by omega
      rw [List.take_length] at hB
      go_wp2_with fail
      refine (Bld.string hB.out.2).mono ?_
      rintro e w' ⟨rfl, hb'⟩
      go_wp2_with fail
      go_ret2
      have hR : dratR l0 = (⟨(stepsT l0).toArray⟩, 0) := by
        unfold dratR
        rw [if_pos (List.all_eq_true.2 hB.out.1)]
      rw [← HRR.out, hR]
      exact ⟨rfl, hB.out.2.below.trans hb'⟩

theorem drat_Write.calls (A0 : Option Addr) (c0 : Nat) (l0 : List S33) (r1 : ByteArray) (r2 : Int) (w : World) (hr0 : Kd.C k33 w A0 l0.length l0) (hc0 : l0.length ≤ c0) (hE : Env w) (h : drat_Write.f l0 = some (r1, r2)) :
    Calls Tryd.prog 11 #[.slice A0 l0.length c0] w fun e w' => e = .returned (.tuple #[.string r1, .int .i64 r2]) ∧ Below w.heap.size w w' := by
  unfold drat_Write.f at h
  by_cases hh : l0.length ≤ 1048576 ∧ ∀ s ∈ l0, s.f1.length ≤ 1048576
  · rw [if_pos hh] at h
    exact write_walk A0 c0 l0 (r1, r2) w hr0 hc0 hE hh.1 hh.2 (Option.some.inj h)
  · rw [if_neg hh] at h
    cases h
end Go.Proofs.YtooojhlndlebdaaRRRDoorRRRR.P
