/- The walk of the law DimacsLoose: begun. No conditions. -/
import Derived.Test.YtejdjmcdlbcmeaaDoorMarked
import Derived.Test.YtejdjmcdlbcmeaaDoorGapT
import Derived.Test.YtejdjmcdlbcmeaaDoorLooseS
import Derived.Test.YtejdjmcdlbcmeaaDoorSameT
import Derived.Test.YtejdjmcdlbcmeaaDoorEnvT
import Derived.Deep.RegionWith
set_option linter.unusedVariables false
set_option linter.unusedSimpArgs false
namespace Go.Proofs.YtejdjmcdlbcmeaaDoor.T
open Go.RowKit Go.Lib Go.Proofs.YtejdjmcdlbcmeaaDoorW.PrintWords Go.Proofs.YtejdjmcdlbcmeaaDoorW.PrintLast Go.Proofs.YtejdjmcdlbcmeaaDoorW.PrintMore
open Go.Proofs.YtejdjmcdlbcmeaaDoor.M (Row)
open Go.Proofs.YtejdjmcdlbcmeaaDoor.R (mkB gapL looseH looseW flatW looseH_length looseW_length looseW_snoc)
open Go.Proofs.YtejdjmcdlbcmeaaDoor.P (litOk inV clauseOk formOk formOk_parts)

/-- Which gap stands behind the k-th word. -/
def gOf (gs : List Int) (k : Nat) : Nat := if h : k < gs.length then L.gapN (gs[k]'h) else 0
theorem flatW_app (a b : List (List Int)) : flatW (a ++ b) = flatW a ++ flatW b := by unfold flatW; rw [List.flatMap_append]
theorem flat_mass (l : List (List Int)) (hb : Args.massL (fun c : List Int => c.length + 1) l ≤ 1048576) : (flatW l).length ≤ 1048576 := by
  have e : ∀ l : List (List Int), (flatW l).length ≤ Args.massL (fun c : List Int => c.length + 1) l := by
    intro l
    induction l with
    | nil => simp [flatW]
    | cons c l ih => rw [R.flatW_cons, List.length_append, List.length_append]; show c.length + 1 + _ ≤ (c.length + 1) + Args.massL _ l; omega
  exact Nat.le_trans (e l) hb
theorem pre_len (l : List (List Int)) (n : Nat) (hn : n < l.length) (m : Nat) : (flatW (l.take n) ++ (l[n] ++ [0]).take m).length ≤ (flatW l).length := by
  have e : flatW l = flatW (l.take n) ++ ((l[n] ++ [0]) ++ flatW (l.drop (n + 1))) := by
    rw [← R.flatW_cons, ← List.drop_eq_getElem_cons hn, ← flatW_app, List.take_append_drop]
  rw [e, List.length_append, List.length_append, List.length_append]
  have := List.length_take_le m (l[n] ++ [0])
  have h2 : ((l[n] ++ [0]).take m).length ≤ (l[n] ++ [0]).length := by rw [List.length_take]; omega
  omega
theorem flat_ok (l : List (List Int)) (h : ∀ s ∈ l, s.all litOk = true) : ∀ x ∈ flatW l, x = 0 ∨ litOk x = true := by
  intro x hx
  unfold flatW at hx
  obtain ⟨c, hc, hx⟩ := List.mem_flatMap.1 hx
  rcases List.mem_append.1 hx with hx | hx
  · exact Or.inr (List.all_eq_true.1 (h c hc) x hx)
  · exact Or.inl (by simpa using hx)
theorem pre_ok (l : List (List Int)) (h : ∀ s ∈ l, s.all litOk = true) (n : Nat) (hn : n < l.length) (m : Nat) : ∀ x ∈ flatW (l.take n) ++ (l[n] ++ [0]).take m, x = 0 ∨ litOk x = true := by
  intro x hx
  rcases List.mem_append.1 hx with hx | hx
  · exact flat_ok _ (fun s hs => h s (List.mem_of_mem_take hs)) x hx
  · rcases List.mem_append.1 (List.mem_of_mem_take hx) with hx | hx
    · exact Or.inr (List.all_eq_true.1 (h _ (List.getElem_mem hn)) x hx)
    · exact Or.inl (by simpa using hx)
theorem len_pre (g : Nat → Nat) (v : Int) (l : List (List Int)) (h : ∀ s ∈ l, s.all litOk = true) (hv0 : 0 ≤ v) (hv1 : v ≤ 1048576) (hl : l.length ≤ 1048576) (hf : (flatW l).length ≤ 1048576) (n : Nat) (hn : n < l.length) (m : Nat) : (looseH v l.length ++ looseW g (flatW (l.take n) ++ (l[n] ++ [0]).take m) 0).length ≤ 42000000 := by
  have a := looseH_length v l.length hv0 hv1 hl
  have b := looseW_length g _ 0 (pre_ok l h n hn m)
  have c := pre_len l n hn m
  rw [List.length_append]
  omega
theorem word_snoc (g : Nat → Nat) (w : List Int) (c : List Int) (m : Nat) (x : Int) (hm : m < (c ++ [0]).length) (hx : (c ++ [0])[m] = x) (H : List UInt8) (k : Nat) (hk : k = w.length + m) :
    H ++ looseW g (w ++ (c ++ [0]).take (m + 1)) 0 = H ++ looseW g (w ++ (c ++ [0]).take m) 0 ++ Lib.itoa x ++ gapL (g k) := by
  have e : min m (c ++ [0]).length = m := Nat.min_eq_left (Nat.le_of_lt hm)
  rw [take_succd hm, hx, ← List.append_assoc w, looseW_snoc, Nat.zero_add, List.length_append, List.length_take, e, ← hk]
  simp
theorem take_all1 (c : List Int) : (c ++ [0]).take (c.length + 1) = c ++ [0] := List.take_of_length_le (by simp)
theorem gOf_lt {gs : List Int} {k : Nat} (h : k < gs.length) : gOf gs k = L.gapN gs[k] := by unfold gOf; rw [dif_pos h]
theorem gOf_ge {gs : List Int} {k : Nat} (h : ¬ k < gs.length) : gapL (gOf gs k) = [32] := by unfold gOf; rw [dif_neg h]; rfl
theorem itoa_zero : Lib.itoa 0 = [48] := by kernel_rfl
set_option maxHeartbeats 16000000 in
set_option maxRecDepth 100000 in
theorem loose_walk (v : Int) (A0 : Option Addr) (c0 : Nat) (l0 : List (List Int)) (A1 : Option Addr) (c1 : Nat) (gs : List Int) (w : World) (hr0 : Kd.C (Kd.slice 3 (Kd.int .i64)) w A0 l0.length l0) (hc0 : l0.length ≤ c0) (hr1 : Kd.C (Kd.int .i64) w A1 gs.length gs) (hc1 : gs.length ≤ c1) (hE : Env w) (hn : l0.length ≤ 1048576) (hm : ∀ s ∈ l0, s.length ≤ 1048576) (hf : (flatW l0).length ≤ 1048576) :
    Calls Tryd.prog 6 #[.agg #[.int .i64 v, .slice A0 l0.length c0], .slice A1 gs.length c1] w fun e w' => e = .returned (.bool true) ∧ Below w.heap.size w w' := by
  have hu28 := Tryd.underlying28
  have HR := Aside0.mk hr0
  have HC := Aside0.mk hc0
  have HE := Aside0.mk hE
  have HM := Aside0.mk hm
  have HFL := Aside0.mk hf
  clear hf
  have HG := Aside0.mk hr1
  clear hr0 hc0 hE hm hr1
  go_enter Tryd.func6, Tryd.ntmps6
  go_wp2_with fail
  refine (depotlaw03_shaped.calls (l0.length * (1048576 + 2) + 2) v A0 c0 l0 (formOk v l0) _ (by (with_reducible repeat (first | apply Kd.C_alloc | apply Kd.C_drewN | apply Kd.C_drew)); exact HR.out) HC.out (shaped_is v l0 1048576 HM.out (by decide) (by omega) _ (by omega))).mono ?_
  rintro e w1 ⟨rfl, hb1⟩
  have HB1 := Aside0.mk hb1
  clear hb1
  have hbw : Below w.heap.size w w1 := by
    have := (Below.refl w.heap.size w).alloc (Nat.le_refl _) (.cells #[.int .i64 v, .slice A0 l0.length c0] 28)
    exact this.trans (HB1.out.mono (by simp))
  cases hok : formOk v l0 with
  | false =>
    go_wp2_with fail
    go_ret
    exact ⟨rfl, hbw⟩
  | true =>
    obtain ⟨hv0, hv1, hlits⟩ := formOk_parts hok
    go_wp2_with fail
    have f0 : w1.cell? ⟨w.heap.size, 0, none⟩ = some (.int .i64 v) := by rw [HB1.out.cell (by simp)]; simp [World.cell?_alloc_new]
    have f1 : w1.cell? ⟨w.heap.size, 1, none⟩ = some (.slice A0 l0.length c0) := by rw [HB1.out.cell (by simp)]; simp [World.cell?_alloc_new]
    have hlt1 : w.heap.size < w1.heap.size := World.block_lt_of_cell? w1 _ f0
    have hxv := Lib.itoa_length_le v (by omega) (by omega)
    have hxn := Lib.itoa_length_le (l0.length : Int) (by omega) (by omega)
    have HEn := HE.out.below hbw
    have HEH := Aside0.mk (show ((⟨#[99, 32, 112, 32, 99, 110, 102, 32, 49, 32, 49, 10, 10, 32, 9, 112, 9, 32, 99, 110, 102, 32, 32]⟩ : ByteArray) ++ ⟨(Lib.itoa v).toArray⟩ ++ ⟨#[32]⟩ ++ ⟨(Lib.itoa (l0.length : Int)).toArray⟩ ++ ⟨#[32, 10]⟩).data.toList = looseH v l0.length by simp [looseH])
    have HSZ := Aside0.mk (show ((⟨#[99, 32, 112, 32, 99, 110, 102, 32, 49, 32, 49, 10, 10, 32, 9, 112, 9, 32, 99, 110, 102, 32, 32]⟩ : ByteArray) ++ ⟨(Lib.itoa v).toArray⟩ ++ ⟨#[32]⟩ ++ ⟨(Lib.itoa (l0.length : Int)).toArray⟩ ++ ⟨#[32, 10]⟩).size = 23 + (Lib.itoa v).length + 1 + (Lib.itoa (l0.length : Int)).length + 2 by simp only [ByteArray.size_append]; rfl)
    have HZH := Aside0.mk (show ((⟨#[99, 32, 112, 32, 99, 110, 102, 32, 49, 32, 49, 10, 10, 32, 9, 112, 9, 32, 99, 110, 102, 32, 32]⟩ : ByteArray) ++ ⟨(Lib.itoa v).toArray⟩ ++ ⟨#[32]⟩ ++ ⟨(Lib.itoa (l0.length : Int)).toArray⟩ ++ ⟨#[32, 10]⟩).size ≤ 140737488355328 by rw [HSZ.out]; omega)
    have kp : ∀ W, Below w1.heap.size w1 W → W.cell? ⟨w.heap.size, 0, none⟩ = some (.int .i64 v) ∧ W.cell? ⟨w.heap.size, 1, none⟩ = some (.slice A0 l0.length c0) := fun W h => ⟨(h.cell hlt1).trans f0, (h.cell hlt1).trans f1⟩
    have KP := Aside0.mk kp
    have HEN := Aside0.mk HEn
    have hconv := fun w s => Lib.run_convert_string_bytes (P := Tryd.prog) w 9 36 5 s Tryd.underlying9 Tryd.underlying36 Tryd.underlying5
    clear kp HEn
    have hq1 : ¬ (9223372036854775807 < 23 + (Lib.itoa v).length) := by omega
    have hq2 : ¬ (9223372036854775807 < 23 + (Lib.itoa v).length + 1) := by omega
    have hq3 : ¬ (9223372036854775807 < 23 + (Lib.itoa v).length + 1 + (Lib.itoa (l0.length : Int)).length) := by omega
    have hq4 : ¬ (9223372036854775807 < 23 + (Lib.itoa v).length + 1 + (Lib.itoa (l0.length : Int)).length + 2) := by omega
    go_cut [5] (fun v4 wx => Aside0 (Row 5 w1 (looseH v l0.length) v4 wx))
    case first =>
      go_region_with
        (first
          | (go_at_call 20; (with_reducible refine (strconv_Itoa_20.calls v _ _ (HEN.out.below (Below.refl _ _).drew) (by unfold strconv_Itoa_20.f P.strconv_Itoa_20.f; exact if_pos (by omega))).mono ?_); rintro e w2 ⟨rfl, hb2⟩; have HX := Aside0.mk ((Below.refl w1.heap.size w1).drew.trans hb2); have g2 := (KP.out _ HX.out).2; clear hb2)
          | (go_at_call 20; (with_reducible refine (strconv_Itoa_20.calls (l0.length : Int) _ _ (HEN.out.below HX.out) (by unfold strconv_Itoa_20.f P.strconv_Itoa_20.f; exact if_pos (by omega))).mono ?_); rintro e w3 ⟨rfl, hb3⟩; have HY := Aside0.mk (HX.out.trans (hb3.mono HX.out.size)); clear hb3))
      all_goals (go_wp2_with fail; go_meet; exact ⟨by rw [← HEH.out, ← HSZ.out]; exact Row.made (e := 5) HY.out _ HZH.out⟩)
    case rest =>
      have HS := hcut
      clear hconv
      have g1 := (KP.out wc HS.out.below).2
      go_wp2_with fail
      clear g1
      go_loopw [5, 6, 7] (fun s kk i wr => ∃ n q0 : Nat, n ≤ l0.length ∧ i = .int .i64 n ∧ kk = .int .i64 q0 ∧ Aside0 (q0 = (flatW (l0.take n)).length) ∧ Aside0 (Row 5 w1 (looseH v l0.length ++ looseW (gOf gs) (flatW (l0.take n)) 0) s wr)) (fun _ _ i _ => l0.length - (intOf i).toNat)
      case atStart => exact ⟨0, 0, Nat.zero_le _, rfl, rfl, ⟨rfl⟩, ⟨by simpa [flatW, looseW] using HS.out⟩⟩
      case round =>
        obtain ⟨n, q0, hk, rfl, rfl, hq0, hB⟩ := hrel
        have hbw2 := Aside0.mk (hbw.trans (hB.out.below.mono hbw.size))
        have g1 := (KP.out _ hB.out.below).2
        by_cases hlt : n < l0.length
        · obtain ⟨ad, A2, c2, rfl, hx1, hl1, hC1⟩ := at_L1 HR.out (n : Int) (by omega) (by omega)
          have HL1 := Aside0.mk hl1
          have HC1 := Aside0.mk hC1
          have HX1 := Aside0.mk hx1
          clear hl1 hC1 hx1
          rw [rdL1_nat hlt] at HL1 HC1 HX1
          go_wp2_with fail
          clear g1
          have hsm := HM.out l0[n] (List.getElem_mem hlt)
          have hs := hlits l0[n] (List.getElem_mem hlt)
          go_loopw [5, 6, 8] (fun s kk j w3 => ∃ m q : Nat, m ≤ l0[n].length + 1 ∧ j = .int .i64 m ∧ kk = .int .i64 q ∧ Aside0 (q = (flatW (l0.take n)).length + m) ∧ Aside0 (Row 5 w1 (looseH v l0.length ++ looseW (gOf gs) (flatW (l0.take n) ++ (l0[n] ++ [0]).take m) 0) s w3)) (fun _ _ j _ => l0[n].length + 1 - (intOf j).toNat)
          case atStart => exact ⟨0, q0, Nat.zero_le _, rfl, rfl, hq0, ⟨by simpa using hB.out⟩⟩
          case round =>
            obtain ⟨m, q, hmle, rfl, rfl, hq, hB3⟩ := hrel
            have hlen3 := len_pre (gOf gs) v l0 hlits hv0 hv1 hn HFL.out n hlt m
            have hpl := pre_len l0 n hlt m
            have hfl := HFL.out
            have htl : ((l0[n] ++ [0]).take m).length = m := by rw [List.length_take, List.length_append]; simp; omega
            rw [List.length_append, htl] at hpl
            clear htl
            have hql : q ≤ 1048576 := by rw [hq.out]; omega
            clear hpl hfl
            have hbw3 := Aside0.mk (hbw.trans (hB3.out.below.mono hbw.size))
            have g1 := (KP.out _ hB3.out.below).2
            have hx1 := (hbw3.out.cell (World.block_lt_of_cell? w _ HX1.out)).trans HX1.out
            simp only [Int.toNat_natCast] at hx1
            by_cases hkg : q < gs.length
            · obtain ⟨ad3, e3, hy3⟩ := Kd.at_int HG.out (q : Int) (by omega) (by omega)
              subst e3
              rw [rd_natd hkg] at hy3
              simp only [Int.toNat_natCast] at hy3
              have HY3 := Aside0.mk hy3
              clear hy3
              by_cases hmt : m < l0[n].length
              · skip
                obtain ⟨ad2, e2, hy⟩ := Kd.at_int (Kd.C_below HC1.out hbw3.out) (m : Int) (by omega) (by omega)
                subst e2
                rw [rd_natd hmt] at hy
                simp only [Int.toNat_natCast] at hy
                have hxr := P.litOk_range (List.all_eq_true.1 hs l0[n][m] (List.getElem_mem hmt))
                have hxl := Lib.itoa_length_le l0[n][m] (by omega) (by omega)
                go_wp2_with fail
                clear g1 hx1 hy
                refine (strconv_Itoa_20.calls l0[n][m] _ _ (HE.out.below hbw3.out) (by unfold strconv_Itoa_20.f P.strconv_Itoa_20.f; exact if_pos (by omega))).mono ?_
                rintro e w5 ⟨rfl, hb5⟩
                have hB5 := Aside0.mk (hB3.out.on hb5)
                go_wp2_with (first
                  | (at_builtin; refine Row.append_string hB5.out rfl (.tmp 62) (.tmp 63) 36 9 rfl Tryd.underlying36 Tryd.underlying9 Go.Proofs.YtejdjmcdlbcmeaaDoor.B.infoByte rfl _ rfl (by show _ + (Lib.itoa l0[n][m]).length ≤ _; omega) ?_; intro v6 w6 hr6 hg6; have HR6 := Aside0.mk hr6; clear hr6 hg6; have hy3 := ((hbw.trans (HR6.out.below.mono hbw.size)).cell (World.block_lt_of_cell? w _ HY3.out)).trans HY3.out))
                refine (L.depotlaw03_gap.calls _ _ _ (L.gap_is _)).mono ?_
                rintro e w8 ⟨rfl, nd, rfl⟩
                have HR7 := Aside0.mk (HR6.out.on (pw_below_drewN (Below.refl _ _) nd))
                go_wp2_with (first
                  | (at_builtin; refine Row.append_string HR7.out rfl (.tmp 69) (.tmp 74) 36 9 rfl Tryd.underlying36 Tryd.underlying9 Go.Proofs.YtejdjmcdlbcmeaaDoor.B.infoByte rfl _ rfl (by have := R.gapL_length (L.gapN gs[q]); rw [List.length_append]; show _ + (Lib.itoa l0[n][m]).length + (gapL _).length ≤ _; omega) ?_; intro v8 w8 hr8 hg8; have HR8 := Aside0.mk hr8; clear hr8 hg8))
                go_roundw
                case rel => exact ⟨m + 1, q + 1, by omega, by go_num, by go_num, ⟨by rw [hq.out]; omega⟩, ⟨by rw [word_snoc (gOf gs) (flatW (l0.take n)) l0[n] m l0[n][m] (by simp; omega) (by rw [List.getElem_append_left hmt]) (looseH v l0.length) q hq.out, gOf_lt hkg]; exact HR8.out⟩⟩
                case measure => simp [intOf]; omega
              · by_cases hme : m = l0[n].length
                · skip
                  have hme2 : m ≤ l0[n].length := by omega
                  go_wp2_with (first
                    | (at_builtin; refine Row.append_string hB3.out rfl (.tmp 62) (.tmp 63) 36 9 rfl Tryd.underlying36 Tryd.underlying9 Go.Proofs.YtejdjmcdlbcmeaaDoor.B.infoByte rfl _ rfl (by show _ + 1 ≤ _; omega) ?_; intro v6 w6 hr6 hg6; have HR6 := Aside0.mk hr6; clear hr6 hg6; have hy3 := ((hbw.trans (HR6.out.below.mono hbw.size)).cell (World.block_lt_of_cell? w _ HY3.out)).trans HY3.out))
                  refine (L.depotlaw03_gap.calls _ _ _ (L.gap_is _)).mono ?_
                  rintro e w8 ⟨rfl, nd, rfl⟩
                  have HR7 := Aside0.mk (HR6.out.on (pw_below_drewN (Below.refl _ _) nd))
                  go_wp2_with (first
                    | (at_builtin; refine Row.append_string HR7.out rfl (.tmp 69) (.tmp 74) 36 9 rfl Tryd.underlying36 Tryd.underlying9 Go.Proofs.YtejdjmcdlbcmeaaDoor.B.infoByte rfl _ rfl (by have := R.gapL_length (L.gapN gs[q]); rw [List.length_append]; show _ + 1 + (gapL _).length ≤ _; omega) ?_; intro v8 w8 hr8 hg8; have HR8 := Aside0.mk hr8; clear hr8 hg8))
                  go_roundw
                  case rel => exact ⟨m + 1, q + 1, by omega, by go_num, by go_num, ⟨by rw [hq.out]; omega⟩, ⟨by rw [word_snoc (gOf gs) (flatW (l0.take n)) l0[n] m 0 (by simp; omega) (by subst hme; simp) (looseH v l0.length) q hq.out, gOf_lt hkg, itoa_zero]; exact HR8.out⟩⟩
                  case measure => simp [intOf]; omega
                · skip
                  obtain rfl : m = l0[n].length + 1 := by omega
                  rw [take_all1] at hB3
                  go_wp2_with fail
                  go_roundw
                  case rel =>
                    refine ⟨n + 1, q, by omega, by go_num, rfl, ⟨?_⟩, ⟨?_⟩⟩
                    · rw [hq.out, take_succd hlt, R.flatW_snoc]; simp
                    · rw [take_succd hlt, R.flatW_snoc]; exact hB3.out
                  case measure => simp [intOf]; omega
            · by_cases hmt : m < l0[n].length
              · skip
                obtain ⟨ad2, e2, hy⟩ := Kd.at_int (Kd.C_below HC1.out hbw3.out) (m : Int) (by omega) (by omega)
                subst e2
                rw [rd_natd hmt] at hy
                simp only [Int.toNat_natCast] at hy
                have hxr := P.litOk_range (List.all_eq_true.1 hs l0[n][m] (List.getElem_mem hmt))
                have hxl := Lib.itoa_length_le l0[n][m] (by omega) (by omega)
                go_wp2_with fail
                clear g1 hx1 hy
                refine (strconv_Itoa_20.calls l0[n][m] _ _ (HE.out.below hbw3.out) (by unfold strconv_Itoa_20.f P.strconv_Itoa_20.f; exact if_pos (by omega))).mono ?_
                rintro e w5 ⟨rfl, hb5⟩
                have hB5 := Aside0.mk (hB3.out.on hb5)
                go_wp2_with (first
                  | (at_builtin; refine Row.append_string hB5.out rfl (.tmp 62) (.tmp 63) 36 9 rfl Tryd.underlying36 Tryd.underlying9 Go.Proofs.YtejdjmcdlbcmeaaDoor.B.infoByte rfl _ rfl (by show _ + (Lib.itoa l0[n][m]).length ≤ _; omega) ?_; intro v6 w6 hr6 hg6; have HR6 := Aside0.mk hr6; clear hr6 hg6) | (at_builtin; refine Row.append_slice (HR6.out.alloc _) rfl (.tmp 76) (.tmp 77) 36 rfl Tryd.underlying36 Go.Proofs.YtejdjmcdlbcmeaaDoor.B.infoByte rfl 32 32 rfl ⟨w6.heap.size, 0, none⟩ 1 rfl (by simp [Addr.add, World.cell?_alloc_new]) (by rw [List.length_append]; show _ + (Lib.itoa l0[n][m]).length + 1 ≤ _; omega) ?_; intro v8 w8 hr8 hg8; have HR8 := Aside0.mk hr8; clear hr8 hg8))
                go_roundw
                case rel => exact ⟨m + 1, q + 1, by omega, by go_num, by go_num, ⟨by rw [hq.out]; omega⟩, ⟨by rw [word_snoc (gOf gs) (flatW (l0.take n)) l0[n] m l0[n][m] (by simp; omega) (by rw [List.getElem_append_left hmt]) (looseH v l0.length) q hq.out, gOf_ge hkg]; exact HR8.out⟩⟩
                case measure => simp [intOf]; omega
              · by_cases hme : m = l0[n].length
                · skip
                  have hme2 : m ≤ l0[n].length := by omega
                  go_wp2_with (first
                    | (at_builtin; refine Row.append_string hB3.out rfl (.tmp 62) (.tmp 63) 36 9 rfl Tryd.underlying36 Tryd.underlying9 Go.Proofs.YtejdjmcdlbcmeaaDoor.B.infoByte rfl _ rfl (by show _ + 1 ≤ _; omega) ?_; intro v6 w6 hr6 hg6; have HR6 := Aside0.mk hr6; clear hr6 hg6) | (at_builtin; refine Row.append_slice (HR6.out.alloc _) rfl (.tmp 76) (.tmp 77) 36 rfl Tryd.underlying36 Go.Proofs.YtejdjmcdlbcmeaaDoor.B.infoByte rfl 32 32 rfl ⟨w6.heap.size, 0, none⟩ 1 rfl (by simp [Addr.add, World.cell?_alloc_new]) (by rw [List.length_append]; show _ + 1 + 1 ≤ _; omega) ?_; intro v8 w8 hr8 hg8; have HR8 := Aside0.mk hr8; clear hr8 hg8))
                  go_roundw
                  case rel => exact ⟨m + 1, q + 1, by omega, by go_num, by go_num, ⟨by rw [hq.out]; omega⟩, ⟨by rw [word_snoc (gOf gs) (flatW (l0.take n)) l0[n] m 0 (by simp; omega) (by subst hme; simp) (looseH v l0.length) q hq.out, gOf_ge hkg, itoa_zero]; exact HR8.out⟩⟩
                  case measure => simp [intOf]; omega
                · skip
                  obtain rfl : m = l0[n].length + 1 := by omega
                  rw [take_all1] at hB3
                  go_wp2_with fail
                  go_roundw
                  case rel =>
                    refine ⟨n + 1, q, by omega, by go_num, rfl, ⟨?_⟩, ⟨?_⟩⟩
                    · rw [hq.out, take_succd hlt, R.flatW_snoc]; simp
                    · rw [take_succd hlt, R.flatW_snoc]; exact hB3.out
                  case measure => simp [intOf]; omega
        · obtain rfl : n = l0.length := by omega
          rw [List.take_length] at hB
          have hsz := looseW_length (gOf gs) (flatW l0) 0 (flat_ok l0 hlits)
          have hhd := looseH_length v l0.length hv0 hv1 hn
          have hfl := HFL.out
          have hlen : (looseH v l0.length ++ looseW (gOf gs) (flatW l0) 0).length ≤ 42000000 := by rw [List.length_append]; omega
          clear hsz hhd hfl
          have hstr := Row.string (P := Tryd.prog) (src := 36) (dst := 9) hB.out Tryd.underlying36 Tryd.underlying5 Tryd.underlying9 (by omega)
          have HLEN := Aside0.mk hlen
          clear hlen
          go_wp2_with fail
          refine (dimacs_Read.calls _ v l0 0 0 _ (HE.out.below hbw2.out) ?hread).mono ?_
          case hread =>
            unfold dimacs_Read.f R.dimacs_Read.f
            rw [if_pos (by have := HLEN.out; show (looseH v l0.length ++ looseW (gOf gs) (flatW l0) 0).length ≤ _; omega)]
            have e := R.readD_loose (gOf gs) v l0 hok hn
            unfold mkB at e
            rw [e]
            rfl
          rintro e w5 ⟨v1, rfl, hS, hb5⟩
          obtain ⟨Ag, cg, rfl, hlg, hCg⟩ := Kd.R_reads (Kd.S_R hS)
          have hbw5 := Aside0.mk (hbw2.out.trans (hb5.mono hbw2.out.size))
          have HRG := Aside0.mk hCg
          have HLG := Aside0.mk hlg
          obtain ⟨k0, k1⟩ := KP.out _ (hB.out.below.trans (hb5.mono hB.out.below.size))
          have hz5 : w.heap.size < w5.heap.size := World.block_lt_of_cell? w5 _ k0
          clear hS hb5 hCg hlg hstr g1
          go_wp2_with fail
          refine (depotref00_SameFormula.calls (l0.length + 1048576 + 2) v A0 c0 l0 v Ag cg l0 true _ (Kd.C_alloc (Kd.C_below HR.out hbw5.out) _) HC.out (Kd.C_alloc HRG.out _) HLG.out (sameFormula_self v l0 1048576 HM.out (by decide) (by omega) _ (by omega))).mono ?_
          rintro e w6 ⟨rfl, hb6⟩
          have HB6 := Aside0.mk hb6
          clear hb6
          go_wp2_with fail
          go_ret
          exact ⟨rfl, (hbw5.out.alloc hbw5.out.size _).trans (HB6.out.mono (by have := hbw5.out.size; simp; omega))⟩
theorem loose_calls (v : Int) (A0 : Option Addr) (c0 : Nat) (l0 : List (List Int)) (A1 : Option Addr) (c1 : Nat) (gs : List Int) (w : World) (hr0 : Kd.C (Kd.slice 3 (Kd.int .i64)) w A0 l0.length l0) (hc0 : l0.length ≤ c0) (hr1 : Kd.C (Kd.int .i64) w A1 gs.length gs) (hc1 : gs.length ≤ c1) (hE : Env w) (hb : Args.massL (fun c : List Int => c.length + 1) l0 ≤ 1048576) (hn : l0.length ≤ 1048576) (hm : ∀ s ∈ l0, s.length ≤ 1048576) :
    Calls Tryd.prog 6 #[.agg #[.int .i64 v, .slice A0 l0.length c0], .slice A1 gs.length c1] w fun e w' => e = .returned (.bool true) ∧ Below w.heap.size w w' :=
  loose_walk v A0 c0 l0 A1 c1 gs w hr0 hc0 hr1 hc1 hE hn hm (flat_mass l0 hb)
end Go.Proofs.YtejdjmcdlbcmeaaDoor.T
