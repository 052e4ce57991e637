/- The walk of the law ControlIdle: it answers true. No conditions. -/
import Derived.Test.YtbaiglikmneicaaDoorIdleC
import Derived.Test.YtbaiglikmneicaaDoorMarked
import Derived.Test.YtbaiglikmneicaaDoorBuilder
import Derived.Deep.CutBlock
import Derived.Lib.SlBytesConst
import Derived.Deep.DeepCutAuto
set_option linter.unusedVariables false
set_option linter.unusedSimpArgs false
namespace Go.Proofs.YtbaiglikmneicaaDoor.P
open Go.RowKit Go.Lib Go.Proofs.YtbaiglikmneicaaDoorW.PrintWords Go.Proofs.YtbaiglikmneicaaDoorW.PrintLast Go.Proofs.YtbaiglikmneicaaDoorW.PrintMore
open Go.Proofs.YtbaiglikmneicaaDoor.R (mkB mkB_size mkB_data pieces linesA)
open Go.Proofs.YtbaiglikmneicaaDoor.M (Row Owns)

/-- A row of bytes that is laid outright. -/
theorem row_lit {w0 w : World} (hb : Below w0.heap.size w0 w) (xs : List UInt8) (cells : Array Value) (hc : cells.toList = byteCells xs) (n : Nat) (hn : n = xs.length) (h63 : n ≤ maxLen) : Row 5 w0 xs (.slice (some ⟨w.heap.size, 0, none⟩) n n) (w.alloc (.cells cells 5 (cells.size, cells.size + 1))) := by
  subst hn
  have hl : (byteCells xs).length = xs.length := by simp [byteCells]
  have hcs : cells.size = xs.length := by rw [← Array.length_toList, hc, hl]
  refine ⟨⟨w.heap.size, xs.length, cells, (cells.size, cells.size + 1), by rw [hl], hb.size, heap_alloc_new w _, fun j hj h => by have := h.1; simp only [] at this; omega, by rw [hl]; exact Nat.le_refl _, h63, ?_, ?_⟩, hb.alloc hb.size _⟩
  · rw [← Array.length_toList, hc, hl]
  · rw [hc, hl, ← hl, List.take_length]
/-- Does a line begin at place i? -/
def beg (W : List UInt8) (i : Nat) : Bool := decide (i = 0) || (W.getD (i - 1) 0 == 10)
theorem beg_succ (W : List UInt8) (i : Nat) (h : i < W.length) : beg W (i + 1) = (W[i] == 10) := by
  unfold beg
  rw [Nat.add_sub_cancel, List.getD_eq_getElem?_getD, List.getElem?_eq_getElem h, decide_eq_false (by omega), Bool.false_or]
  rfl
set_option maxHeartbeats 16000000 in
set_option maxRecDepth 100000 in
theorem idle_walk (A0 : Option Addr) (c0 : Nat) (l0 : List S41) (A1 : Option Addr) (c1 : Nat) (gs : List Int) (w : World) (hr0 : Kd.C k41 w A0 l0.length l0) (hc0 : l0.length ≤ c0) (hr1 : Kd.C (Kd.int .i64) w A1 gs.length gs) (hc1 : gs.length ≤ c1) (hE : Env w) (hb : massS l0 ≤ 1048576) (hgl : gs.length ≤ 1048576) :
    Calls Tryd.prog 10 #[.slice A0 l0.length c0, .slice A1 gs.length c1] w fun e w' => e = .returned (.bool true) ∧ Below w.heap.size w w' := by
  have hm : massS (fewL l0) ≤ 1048576 := Nat.le_trans (few_mass l0) hb
  have hl := mass_all hb
  obtain ⟨x, hx⟩ : ∃ x, fewL l0 = x := ⟨_, rfl⟩
  rw [hx] at hm
  have ha := mass_all hm
  obtain ⟨k, hk⟩ : ∃ k, l0.length + x.length * (1048576 + 4) + 1048576 + 8 < k := ⟨_, Nat.lt_succ_self _⟩
  have hmul : x.length ≤ x.length * (1048576 + 4) := Nat.le_mul_of_pos_right _ (by decide)
  have h1 := Aside0.mk (show depotlaw21_few.f k l0 = some x from by rw [← hx]; exact few_is l0 (by omega) k (by omega))
  have h2 := Aside0.mk (copied_is x (by omega) (fun s hs => by have := (ha.2 s hs).1; omega) k (by omega))
  have h3 := Aside0.mk (write_is hm (by decide))
  have HSAME := Aside0.mk (fun (l' : List S41) (he : l'.map (·.f1) = x.map (·.f1)) => same_is x l' false 1048576 (by decide) he.symm (fun h => by cases h) (by omega) (fun s hs => (ha.2 s hs).1) k (by omega))
  have HLEN := Aside0.mk (stanzasW_len x 0)
  have HM := Aside0.mk hm
  have HR := Aside0.mk hr0
  have HC := Aside0.mk hc0
  have HG := Aside0.mk hr1
  have HE := Aside0.mk hE
  clear hr0 hc0 hr1 hE hb hm hl ha hk hmul hx
  go_enter Tryd.func10, Tryd.ntmps10
  go_wp2_with fail
  refine (depotlaw21_few.calls k (fun k_ => k_ < w.heap.size) _ _ l0 x _ (Kd.V_mk HC.out (Kd.C_F k41_heap HR.out)) h1.out).mono ?_
  rintro e w1 ⟨v1, rfl, hN1, hb1⟩
  obtain ⟨A2, c2, e2⟩ := Kd.N_slice hN1
  subst e2
  have HX2 := Aside0.mk (Kd.N_reads' hN1).2.2
  have HC2 := Aside0.mk (Kd.N_reads' hN1).2.1
  have HB1 := Aside0.mk hb1
  clear hN1 hb1
  go_wp2_with fail
  refine (depotlaw21_copied.calls k A2 c2 x x _ HX2.out HC2.out h2.out).mono ?_
  rintro e w2 ⟨v2, rfl, hS2, hb2⟩
  obtain ⟨A3, c3, rfl, hl3, hC3⟩ := Kd.R_reads (Kd.S_R hS2)
  have HL3 := Aside0.mk hl3
  have HC3 := Aside0.mk hC3
  have HB2 := Aside0.mk (HB1.out.trans (hb2.mono HB1.out.size))
  have HX3 := Aside0.mk (Kd.C_below HX2.out hb2)
  clear hS2 hl3 hC3 hb2
  go_wp2_with fail
  refine (control_Write.calls A3 c3 x (writeC x).1 (writeC x).2 _ HC3.out HL3.out (HE.out.below HB2.out) h3.out).mono ?_
  rintro e w3 ⟨rfl, hb3⟩
  have HB3 := Aside0.mk (HB2.out.trans (hb3.mono HB2.out.size))
  have HX4 := Aside0.mk (Kd.C_below HX3.out hb3)
  clear hb3
  cases hf : formedC x with
  | false =>
    rw [writeC_no hf]
    clear hf
    go_wp2_with fail
    refine (depotlaw21_awake.calls true _ (HE.out.below HB3.out) awake_is).mono ?_
    rintro e w4 ⟨rfl, hb4⟩
    have HB4 := Aside0.mk (HB3.out.trans (hb4.mono HB3.out.size))
    clear hb4
    go_wp2_with fail
    go_ret
    exact ⟨rfl, HB4.out⟩
  | true =>
    rw [writeC_ok hf]
    have HF := Aside0.mk hf
    clear hf
    obtain ⟨W, hW⟩ : ∃ W, stanzasW 0 x = W := ⟨_, rfl⟩
    have hWl : W.length ≤ 4194304 := by
      have h1 := HLEN.out
      have h2 := HM.out
      rw [hW] at h1
      omega
    have HW := Aside0.mk hW
    rw [hW]
    clear hW
    obtain ⟨S, hS⟩ : ∃ S, mkB W = S := ⟨_, rfl⟩
    have hSz : S.size = W.length := by rw [← hS, mkB_size]
    have HSG := Aside0.mk (show ∀ (i : Nat) (h : i < W.length) (h' : i < S.size), (S[i]'h') = W[i] from fun i h h' => by subst hS; simp [mkB]; rfl)
    rw [hS]
    have HSZ := Aside0.mk hSz
    have HS := Aside0.mk hS
    clear hS hSz
    have HT0 := Aside0.mk (row_lit (w0 := w3) (w := w3) (Below.refl _ _) openR #[.int .u8 35, .int .u8 32, .int .u8 111, .int .u8 110, .int .u8 101, .int .u8 10, .int .u8 32, .int .u8 9, .int .u8 10] rfl 9 rfl (by decide))
    have kc := fun (w : World) (C : Array Value) (n c : Nat) => Lib.run_convert_bytes_const (P := Tryd.prog) w 47 5 C n c Tryd.underlying47 Tryd.underlying5
    go_wp2_with fail
    clear kc
    go_loopw [7, 8, 9] (fun tv kv iv wr => ∃ (i k : Nat) (X : List UInt8), i ≤ W.length ∧ iv = .int .i64 i ∧ kv = .int .i64 k ∧ Aside0 (X ++ idleL gs (beg W i) k (W.drop i) = openR ++ idleL gs true 0 W) ∧ Aside0 (k ≤ i) ∧ Aside0 (Row 5 w3 X tv wr)) (fun _ _ iv _ => W.length - (RowKit.intOf iv).toNat)
    case atStart => exact ⟨0, 0, openR, Nat.zero_le _, rfl, rfl, ⟨rfl⟩, ⟨Nat.le_refl _⟩, HT0⟩
    case round =>
      obtain ⟨i, k, X, hil, rfl, rfl, hX, hki, hRow⟩ := hrel
      have hXl : X.length ≤ 100000000 := by
        have e := congrArg List.length hX.out
        have h4 := idleL_len gs W true 0
        rw [List.length_append, List.length_append] at e
        have h5 : openR.length = 9 := rfl
        omega
      by_cases hlt : i < W.length
      · have hkb : k ≤ 4194304 := by have := hki.out; omega
        have hSs : (i : Int) < (S.size : Int) := by rw [HSZ.out]; omega
        go_upto_region 10 with (fail)
        go_cut [7, 10] (fun v7 v10 wx => v10 = .bool (beg W i) ∧ Aside0 (Row 5 w3 X v7 wx))
        case first =>
          by_cases hi0 : i = 0
          · subst hi0
            go_wp2_with fail
            go_meet
            exact ⟨rfl, hRow⟩
          · obtain ⟨p, hp⟩ : ∃ p, i = p + 1 := ⟨i - 1, by omega⟩
            obtain ⟨q, hq⟩ : ∃ q, W[p] = q := ⟨_, rfl⟩
            have hx1 : ∀ h : p < S.size, ((S[p]'h).toNat : Int) = (q.toNat : Int) := fun h => by rw [HSG.out p (by omega) h, hq]
            have hbg : beg W i = (q == 10) := by rw [hp, beg_succ W p (by omega), hq]
            have hpw : IntKind.i64.wrap ((i : Int) - 1) = (p : Int) := by rw [IntKind.wrap_i64]; omega
            have hps : p < S.size := by rw [HSZ.out]; omega
            have hi0b : ((i : Int) == 0) = false := beq_eq_false_iff_ne.2 (by omega)
            have HP := Aside0.mk hp

            by_cases hq10 : q = 10
            · have c10 : ((q.toNat : Int) == 10) = true := by subst hq10; rfl
              have HBG := Aside0.mk (hbg.trans (by rw [hq10]; rfl) : beg W i = true)
              clear hq hbg hq10 hp
              go_wp2_with fail
              go_meet
              exact ⟨by rw [HBG.out], hRow⟩
            · have c10 : ((q.toNat : Int) == 10) = false := beq_eq_false_iff_ne.2 (fun e => hq10 (UInt8.toNat_inj.1 (by show q.toNat = 10; omega)))
              have HBG := Aside0.mk (hbg.trans (beq_eq_false_iff_ne.2 hq10) : beg W i = false)
              clear hq hbg hq10 hp
              go_wp2_with fail
              go_meet
              exact ⟨by rw [HBG.out], hRow⟩
        case rest =>
          obtain ⟨hv10, HRX⟩ := hcut
          subst hv10
          have hx : ∀ h : i < S.size, ((S[i]'h).toNat : Int) = (W[i].toNat : Int) := fun h => by rw [HSG.out i hlt h]
          have HX := Aside0.mk hx
          have hbc := Aside0.mk (show (W[i] = 10 → ((W[i].toNat : Int) == 10) = true) ∧ (¬ W[i] = 10 → ((W[i].toNat : Int) == 10) = false) from ⟨fun e => by rw [e]; rfl, fun e => beq_eq_false_iff_ne.2 (fun h => e (UInt8.toNat_inj.1 (by show W[i].toNat = 10; omega)))⟩)
          cases hbe : beg W i with
          | false =>
            rw [hbe] at hX
            clear hbe
            have hia : idleAt gs false k W[i] = [] := by unfold idleAt; rw [dif_neg (by simp)]
            have hik : idleK gs false k = k := by unfold idleK; rw [if_neg (by simp)]
            have HIA := Aside0.mk hia
            have HIK := Aside0.mk hik
            clear hia hik
            go_wp2_with (first
              | (at_builtin; refine Row.append_slice (HRX.out.alloc _) rfl (.tmp 78) (.tmp 82) 47 rfl Tryd.underlying47 Go.Proofs.YtbaiglikmneicaaDoor.B.infoByte rfl W[i] (W[i].toNat : Int) rfl ⟨wc.heap.size, 0, none⟩ 1 rfl (by simp [Addr.add, World.cell?_alloc_new, HX.out]) (by omega) ?_; intro v9 w9 hr9 hg9; have HR9 := Aside0.mk hr9; clear hr9 hg9))
            go_roundw
            case rel =>
              refine ⟨i + 1, k, _, by omega, by go_num, rfl, ⟨?_⟩, ⟨by have := hki.out; omega⟩, HR9⟩
              have e := hX.out
              rw [List.drop_eq_getElem_cons hlt, idleL] at e
              rw [beg_succ W i hlt, ← e]
              rw [HIA.out, HIK.out, List.append_assoc]; rfl
            case measure => simp [RowKit.intOf]; omega
          | true =>
            rw [hbe] at hX
            clear hbe
            by_cases hkl : k < gs.length
            · have hik : idleK gs true k = k + 1 := by unfold idleK; rw [if_pos ⟨rfl, hkl⟩]
              have hia : idleAt gs true k W[i] = putIn gs[k] W[i] := by unfold idleAt; rw [dif_pos ⟨rfl, hkl⟩]
              have HIA := Aside0.mk hia
              have HIK := Aside0.mk hik
              clear hia hik
              obtain ⟨ad, e3, hy3⟩ := Kd.at_int HG.out (k : Int) (by omega) (by omega)
              subst e3
              rw [rd_nat hkl] at hy3
              simp only [Int.toNat_natCast] at hy3
              have hatl0 := World.block_lt_of_cell? w _ hy3
              have hcell3 := (HB3.out.cell hatl0).trans hy3
              have hatl : _ < w3.heap.size := Nat.lt_of_lt_of_le hatl0 HB3.out.size
              have hcell := (HRX.out.below.cell hatl).trans hcell3
              obtain ⟨gk, hgk⟩ : ∃ gk, gs[k] = gk := ⟨_, rfl⟩
              rw [hgk] at hcell3 hcell HIA hy3
              have HCE := Aside0.mk hcell3
              clear hgk hy3
              by_cases h2 : Int.tmod gk 2 = 0
              · have d2 : (Int.tmod gk 2 == 0) = true := beq_iff_eq.mpr h2
                have H2 := Aside0.mk h2
                clear h2
                by_cases hc10 : W[i] = 10
                · have hb10 := hbc.out.1 hc10
                  have H10 := Aside0.mk hc10
                  clear hc10
                  by_cases h3 : Int.tmod gk 3 = 0
                  · have d3 : (Int.tmod gk 3 == 0) = true := beq_iff_eq.mpr h3
                    have H3 := Aside0.mk h3
                    clear h3
                    go_wp2_with (first
                      | (at_builtin; refine Row.append_string HRX.out rfl (.tmp 63) (.const (.string ⟨#[35, 9, 73, 110, 115, 116, 97, 108, 108, 101, 100, 58, 32, 110, 111, 10]⟩)) 47 9 rfl Tryd.underlying47 Tryd.underlying9 Go.Proofs.YtbaiglikmneicaaDoor.B.infoByte rfl _ rfl (by show _ + 16 ≤ _; omega) ?_; intro v6 w6 hr6 hg6; have HR6 := Aside0.mk hr6; have hcell6 := (HR6.out.below.cell hatl).trans hcell3; clear hr6 hg6)
                      | (at_builtin; refine Row.append_string HR6.out rfl (.tmp 74) (.const (.string ⟨#[32, 10, 9, 9, 10]⟩)) 47 9 rfl Tryd.underlying47 Tryd.underlying9 Go.Proofs.YtbaiglikmneicaaDoor.B.infoByte rfl _ rfl (by rw [List.length_append]; show _ + 16 + 5 ≤ _; omega) ?_; intro v7 w7 hr7 hg7; have HR7 := Aside0.mk hr7; clear hr7 hg7)
                      | (at_builtin; refine Row.append_slice (HR7.out.alloc _) rfl (.tmp 78) (.tmp 82) 47 rfl Tryd.underlying47 Go.Proofs.YtbaiglikmneicaaDoor.B.infoByte rfl W[i] (W[i].toNat : Int) rfl ⟨w7.heap.size, 0, none⟩ 1 rfl (by simp [Addr.add, World.cell?_alloc_new, HX.out]) (by rw [List.length_append, List.length_append]; show _ + 16 + 5 + 1 ≤ _; omega) ?_; intro v9 w9 hr9 hg9; have HR9 := Aside0.mk hr9; clear hr9 hg9))
                    go_roundw
                    case rel =>
                      refine ⟨i + 1, k + 1, _, by omega, by go_num, by go_num, ⟨?_⟩, ⟨by have := hki.out; omega⟩, HR9⟩
                      have e := hX.out
                      rw [List.drop_eq_getElem_cons hlt, idleL] at e
                      rw [beg_succ W i hlt, ← e]
                      rw [HIA.out, HIK.out]
                      unfold putIn; rw [if_pos H2.out, if_pos ⟨H10.out, H3.out⟩]
                      simp [markR, gapR]
                    case measure => simp [RowKit.intOf]; omega
                  · have d3 : (Int.tmod gk 3 == 0) = false := beq_eq_false_iff_ne.mpr h3
                    have H3 := Aside0.mk h3
                    clear h3
                    go_wp2_with (first
                      | (at_builtin; refine Row.append_string HRX.out rfl (.tmp 63) (.const (.string ⟨#[35, 9, 73, 110, 115, 116, 97, 108, 108, 101, 100, 58, 32, 110, 111, 10]⟩)) 47 9 rfl Tryd.underlying47 Tryd.underlying9 Go.Proofs.YtbaiglikmneicaaDoor.B.infoByte rfl _ rfl (by show _ + 16 ≤ _; omega) ?_; intro v6 w6 hr6 hg6; have HR6 := Aside0.mk hr6; have hcell6 := (HR6.out.below.cell hatl).trans hcell3; clear hr6 hg6)
                      | (at_builtin; refine Row.append_slice (HR6.out.alloc _) rfl (.tmp 78) (.tmp 82) 47 rfl Tryd.underlying47 Go.Proofs.YtbaiglikmneicaaDoor.B.infoByte rfl W[i] (W[i].toNat : Int) rfl ⟨w6.heap.size, 0, none⟩ 1 rfl (by simp [Addr.add, World.cell?_alloc_new, HX.out]) (by rw [List.length_append]; show _ + 16 + 1 ≤ _; omega) ?_; intro v9 w9 hr9 hg9; have HR9 := Aside0.mk hr9; clear hr9 hg9))
                    go_roundw
                    case rel =>
                      refine ⟨i + 1, k + 1, _, by omega, by go_num, by go_num, ⟨?_⟩, ⟨by have := hki.out; omega⟩, HR9⟩
                      have e := hX.out
                      rw [List.drop_eq_getElem_cons hlt, idleL] at e
                      rw [beg_succ W i hlt, ← e]
                      rw [HIA.out, HIK.out]
                      unfold putIn; rw [if_pos H2.out, if_neg (fun x => H3.out x.2)]
                      simp [markR, gapR]
                    case measure => simp [RowKit.intOf]; omega
                · have hb10 := hbc.out.2 hc10
                  have H10 := Aside0.mk hc10
                  clear hc10
                  go_wp2_with (first
                    | (at_builtin; refine Row.append_string HRX.out rfl (.tmp 63) (.const (.string ⟨#[35, 9, 73, 110, 115, 116, 97, 108, 108, 101, 100, 58, 32, 110, 111, 10]⟩)) 47 9 rfl Tryd.underlying47 Tryd.underlying9 Go.Proofs.YtbaiglikmneicaaDoor.B.infoByte rfl _ rfl (by show _ + 16 ≤ _; omega) ?_; intro v6 w6 hr6 hg6; have HR6 := Aside0.mk hr6; have hcell6 := (HR6.out.below.cell hatl).trans hcell3; clear hr6 hg6)
                    | (at_builtin; refine Row.append_slice (HR6.out.alloc _) rfl (.tmp 78) (.tmp 82) 47 rfl Tryd.underlying47 Go.Proofs.YtbaiglikmneicaaDoor.B.infoByte rfl W[i] (W[i].toNat : Int) rfl ⟨w6.heap.size, 0, none⟩ 1 rfl (by simp [Addr.add, World.cell?_alloc_new, HX.out]) (by rw [List.length_append]; show _ + 16 + 1 ≤ _; omega) ?_; intro v9 w9 hr9 hg9; have HR9 := Aside0.mk hr9; clear hr9 hg9))
                  go_roundw
                  case rel =>
                    refine ⟨i + 1, k + 1, _, by omega, by go_num, by go_num, ⟨?_⟩, ⟨by have := hki.out; omega⟩, HR9⟩
                    have e := hX.out
                    rw [List.drop_eq_getElem_cons hlt, idleL] at e
                    rw [beg_succ W i hlt, ← e]
                    rw [HIA.out, HIK.out]
                    unfold putIn; rw [if_pos H2.out, if_neg (fun x => H10.out x.1)]
                    simp [markR, gapR]
                  case measure => simp [RowKit.intOf]; omega
              · have d2 : (Int.tmod gk 2 == 0) = false := beq_eq_false_iff_ne.mpr h2
                have H2 := Aside0.mk h2
                clear h2
                by_cases hc10 : W[i] = 10
                · have hb10 := hbc.out.1 hc10
                  have H10 := Aside0.mk hc10
                  clear hc10
                  by_cases h3 : Int.tmod gk 3 = 0
                  · have d3 : (Int.tmod gk 3 == 0) = true := beq_iff_eq.mpr h3
                    have H3 := Aside0.mk h3
                    clear h3
                    go_wp2_with (first
                      | (at_builtin; refine Row.append_string HRX.out rfl (.tmp 74) (.const (.string ⟨#[32, 10, 9, 9, 10]⟩)) 47 9 rfl Tryd.underlying47 Tryd.underlying9 Go.Proofs.YtbaiglikmneicaaDoor.B.infoByte rfl _ rfl (by show _ + 5 ≤ _; omega) ?_; intro v7 w7 hr7 hg7; have HR7 := Aside0.mk hr7; clear hr7 hg7)
                      | (at_builtin; refine Row.append_slice (HR7.out.alloc _) rfl (.tmp 78) (.tmp 82) 47 rfl Tryd.underlying47 Go.Proofs.YtbaiglikmneicaaDoor.B.infoByte rfl W[i] (W[i].toNat : Int) rfl ⟨w7.heap.size, 0, none⟩ 1 rfl (by simp [Addr.add, World.cell?_alloc_new, HX.out]) (by rw [List.length_append]; show _ + 5 + 1 ≤ _; omega) ?_; intro v9 w9 hr9 hg9; have HR9 := Aside0.mk hr9; clear hr9 hg9))
                    go_roundw
                    case rel =>
                      refine ⟨i + 1, k + 1, _, by omega, by go_num, by go_num, ⟨?_⟩, ⟨by have := hki.out; omega⟩, HR9⟩
                      have e := hX.out
                      rw [List.drop_eq_getElem_cons hlt, idleL] at e
                      rw [beg_succ W i hlt, ← e]
                      rw [HIA.out, HIK.out]
                      unfold putIn; rw [if_neg H2.out, if_pos ⟨H10.out, H3.out⟩]
                      simp [markR, gapR]
                    case measure => simp [RowKit.intOf]; omega
                  · have d3 : (Int.tmod gk 3 == 0) = false := beq_eq_false_iff_ne.mpr h3
                    have H3 := Aside0.mk h3
                    clear h3
                    go_wp2_with (first
                      | (at_builtin; refine Row.append_slice (HRX.out.alloc _) rfl (.tmp 78) (.tmp 82) 47 rfl Tryd.underlying47 Go.Proofs.YtbaiglikmneicaaDoor.B.infoByte rfl W[i] (W[i].toNat : Int) rfl ⟨wc.heap.size, 0, none⟩ 1 rfl (by simp [Addr.add, World.cell?_alloc_new, HX.out]) (by omega) ?_; intro v9 w9 hr9 hg9; have HR9 := Aside0.mk hr9; clear hr9 hg9))
                    go_roundw
                    case rel =>
                      refine ⟨i + 1, k + 1, _, by omega, by go_num, by go_num, ⟨?_⟩, ⟨by have := hki.out; omega⟩, HR9⟩
                      have e := hX.out
                      rw [List.drop_eq_getElem_cons hlt, idleL] at e
                      rw [beg_succ W i hlt, ← e]
                      rw [HIA.out, HIK.out]
                      unfold putIn; rw [if_neg H2.out, if_neg (fun x => H3.out x.2)]
                      simp [markR, gapR]
                    case measure => simp [RowKit.intOf]; omega
                · have hb10 := hbc.out.2 hc10
                  have H10 := Aside0.mk hc10
                  clear hc10
                  go_wp2_with (first
                    | (at_builtin; refine Row.append_slice (HRX.out.alloc _) rfl (.tmp 78) (.tmp 82) 47 rfl Tryd.underlying47 Go.Proofs.YtbaiglikmneicaaDoor.B.infoByte rfl W[i] (W[i].toNat : Int) rfl ⟨wc.heap.size, 0, none⟩ 1 rfl (by simp [Addr.add, World.cell?_alloc_new, HX.out]) (by omega) ?_; intro v9 w9 hr9 hg9; have HR9 := Aside0.mk hr9; clear hr9 hg9))
                  go_roundw
                  case rel =>
                    refine ⟨i + 1, k + 1, _, by omega, by go_num, by go_num, ⟨?_⟩, ⟨by have := hki.out; omega⟩, HR9⟩
                    have e := hX.out
                    rw [List.drop_eq_getElem_cons hlt, idleL] at e
                    rw [beg_succ W i hlt, ← e]
                    rw [HIA.out, HIK.out]
                    unfold putIn; rw [if_neg H2.out, if_neg (fun x => H10.out x.1)]
                    simp [markR, gapR]
                  case measure => simp [RowKit.intOf]; omega
            · have hik : idleK gs true k = k := by unfold idleK; rw [if_neg (fun x => hkl x.2)]
              have hia : idleAt gs true k W[i] = [] := by unfold idleAt; rw [dif_neg (fun x => hkl x.2)]
              have HIA := Aside0.mk hia
              have HIK := Aside0.mk hik
              clear hia hik
              by_cases hc10 : W[i] = 10
              · have hb10 := hbc.out.1 hc10
                clear hc10
                go_wp2_with (first
                  | (at_builtin; refine Row.append_slice (HRX.out.alloc _) rfl (.tmp 78) (.tmp 82) 47 rfl Tryd.underlying47 Go.Proofs.YtbaiglikmneicaaDoor.B.infoByte rfl W[i] (W[i].toNat : Int) rfl ⟨wc.heap.size, 0, none⟩ 1 rfl (by simp [Addr.add, World.cell?_alloc_new, HX.out]) (by omega) ?_; intro v9 w9 hr9 hg9; have HR9 := Aside0.mk hr9; clear hr9 hg9))
                go_roundw
                case rel =>
                  refine ⟨i + 1, k, _, by omega, by go_num, rfl, ⟨?_⟩, ⟨by have := hki.out; omega⟩, HR9⟩
                  have e := hX.out
                  rw [List.drop_eq_getElem_cons hlt, idleL] at e
                  rw [beg_succ W i hlt, ← e]
                  rw [HIA.out, HIK.out, List.append_assoc]; rfl
                case measure => simp [RowKit.intOf]; omega
              · have hb10 := hbc.out.2 hc10
                clear hc10
                go_wp2_with (first
                  | (at_builtin; refine Row.append_slice (HRX.out.alloc _) rfl (.tmp 78) (.tmp 82) 47 rfl Tryd.underlying47 Go.Proofs.YtbaiglikmneicaaDoor.B.infoByte rfl W[i] (W[i].toNat : Int) rfl ⟨wc.heap.size, 0, none⟩ 1 rfl (by simp [Addr.add, World.cell?_alloc_new, HX.out]) (by omega) ?_; intro v9 w9 hr9 hg9; have HR9 := Aside0.mk hr9; clear hr9 hg9))
                go_roundw
                case rel =>
                  refine ⟨i + 1, k, _, by omega, by go_num, rfl, ⟨?_⟩, ⟨by have := hki.out; omega⟩, HR9⟩
                  have e := hX.out
                  rw [List.drop_eq_getElem_cons hlt, idleL] at e
                  rw [beg_succ W i hlt, ← e]
                  rw [HIA.out, HIK.out, List.append_assoc]; rfl
                case measure => simp [RowKit.intOf]; omega
      · obtain rfl : i = W.length := by omega
        have hsz : (S.size : Int) = (W.length : Int) := by rw [HSZ.out]
        have hXe : X = openR ++ idleL gs true 0 W := by
          have e := hX.out
          rw [List.drop_length, idleL, List.append_nil] at e
          exact e
        have HXE := Aside0.mk hXe
        have hXt : ((⟨X.toArray⟩ : ByteArray) ++ ⟨#[35, 32, 101, 110, 100, 10, 10, 32, 10, 35]⟩) = mkB (idleT gs W) := by
          rw [hXe]
          apply ByteArray.ext
          unfold mkB idleT tailR
          simp
        have HXT := Aside0.mk hXt
        clear hXe hXt hX
        have hstr := Row.string (P := Tryd.prog) (src := 47) (dst := 9) hRow.out Tryd.underlying47 Tryd.underlying5 Tryd.underlying9 (by omega)
        obtain ⟨l', hrd, hmap⟩ := read_idle gs x HF.out
        rw [HW.out] at hrd
        have HRD := Aside0.mk hrd
        have HMAP := Aside0.mk hmap
        have hbw := Aside0.mk (HB3.out.trans (hRow.out.below.mono HB3.out.size))
        have HXW := Aside0.mk (Kd.C_below HX4.out hRow.out.below)
        clear hrd hmap
        go_wp2_with fail
        rw [HXT.out]
        refine (control_Read.calls (mkB (idleT gs W)) l' 0 0 _ (HE.out.below hbw.out) ?hread).mono ?_
        case hread =>
          unfold control_Read.f
          rw [if_pos (by rw [mkB_size]; unfold idleT; rw [← HXE.out, List.length_append]; show _ + 10 ≤ _; omega)]
          rw [HRD.out]
        rintro e w5 ⟨v5, rfl, hS5, hb5⟩
        obtain ⟨A5, c5, rfl, hl5, hC5⟩ := Kd.R_reads (Kd.S_R hS5)
        have HL5 := Aside0.mk hl5
        have HC5 := Aside0.mk hC5
        have HB5 := Aside0.mk (hbw.out.trans (hb5.mono hbw.out.size))
        have HX5 := Aside0.mk (Kd.C_below HXW.out hb5)
        clear hS5 hl5 hC5 hb5 hstr
        go_wp2_with fail
        refine (depotlaw21_same.calls _ A2 c2 x A5 c5 l' false true _ HX5.out HC2.out HC5.out HL5.out (HSAME.out l' HMAP.out)).mono ?_
        rintro e w6 ⟨rfl, hb6⟩
        have HB6 := Aside0.mk (HB5.out.trans (hb6.below.mono HB5.out.size))
        clear hb6
        go_wp2_with fail
        refine (depotlaw21_awake.calls true _ (HE.out.below HB6.out) awake_is).mono ?_
        rintro e w7 ⟨rfl, hb7⟩
        have HB7 := Aside0.mk (HB6.out.trans (hb7.mono HB6.out.size))
        clear hb7
        go_wp2_with fail
        go_ret
        exact ⟨rfl, HB7.out⟩
theorem idle_calls (A0 : Option Addr) (c0 : Nat) (l0 : List S41) (A1 : Option Addr) (c1 : Nat) (gs : List Int) (w : World) (hr0 : Kd.C k41 w A0 l0.length l0) (hc0 : l0.length ≤ c0) (hr1 : Kd.C (Kd.int .i64) w A1 gs.length gs) (hc1 : gs.length ≤ c1) (hE : Env w) (hb : massS l0 ≤ 1048576) (hgl : gs.length ≤ 1048576) :
    Calls Tryd.prog 10 #[.slice A0 l0.length c0, .slice A1 gs.length c1] w fun e w' => e = .returned (.bool true) ∧ Below w.heap.size w w' :=
  idle_walk A0 c0 l0 A1 c1 gs w hr0 hc0 hr1 hc1 hE hb hgl
end Go.Proofs.YtbaiglikmneicaaDoor.P
