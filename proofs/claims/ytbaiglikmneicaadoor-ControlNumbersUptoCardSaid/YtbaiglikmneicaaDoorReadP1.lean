/- control.Read: the walk, label by label. No conditions. -/
import Derived.Test.YtbaiglikmneicaaDoorReadJ
set_option linter.unusedVariables false
set_option linter.unusedSimpArgs false
namespace Go.Proofs.YtbaiglikmneicaaDoor.P
open Go.RowKit Go.Lib Go.Proofs.YtbaiglikmneicaaDoorW.PrintWords Go.Proofs.YtbaiglikmneicaaDoorW.PrintLast Go.Proofs.YtbaiglikmneicaaDoorW.PrintMore
open Go.Proofs.YtbaiglikmneicaaDoor.R (mkB mkB_size linesA linesA_nil linesA_cons cut_len)
open Go.Proofs.YtbaiglikmneicaaDoor.C (fairL)
open Go.Proofs.YtbaiglikmneicaaDoor.G (jumps wp_scope_labels)

set_option maxHeartbeats 8000000 in
set_option maxRecDepth 100000 in
theorem pass1X (w0 : World) (g : Nat) (s : ByteArray) (hE : Env w0) (hs : s.size ≤ 4294967280) (rest : Code) (a : Act) (w : World) (hf : findLabel bodyC 1 = some (Code.skip.seq rest)) (hJ : JC w0 g s 1 a w) :
    rest.wp Tryd.prog (jumps (fun l' a' w' => JC w0 g s l' a' w' ∧ muC l' a' w' < muC 1 a w) (bodyPost Tryd.prog Tryd.f12 (PostC w0 s))) a w := by
  have HE := Aside0.mk hE
  clear hE
  obtain ⟨t, n, st, v7, vl, vf, hF, hR, hrd, hbn⟩ := hJ
  obtain ⟨u, rfl⟩ := hF
  cases hf
  obtain ⟨Al, cl, el⟩ := Kd.R_slice hR.l
  subst el
  obtain ⟨Ao, co, eo⟩ := Kd.R_slice (Kd.S_R hR.s)
  subst eo
  have b1 : w.cell? ⟨g, 1, none⟩ = some (.slice Al st.fs.length cl) := (blk_cell hR.blk 1).trans rfl
  have b0 : w.cell? ⟨g, 0, none⟩ = some (.int .i64 st.line) := (blk_cell hR.blk 0).trans rfl
  have f0 := blk_frozen hR.blk 0
  have f1 := blk_frozen hR.blk 1
  have HR := Aside0.mk hR
  have HRD := Aside0.mk hrd
  clear hR hrd
  have HBN := Aside0.mk hbn
  clear hbn
  by_cases ht : t = []
  · subst ht
    have e1 : restC st n [] = readC s := HRD.out
    have HD := Aside0.mk e1
    have hol : st.out.length ≤ 4294967280 := by
      have h1 := HBN.out.nt
      have h2 := HBN.out.out
      omega
    have c0 : ((mkB []).toList == ([] : List UInt8)) = true := by rw [ByteArray.toList_eq]; rfl
    clear e1
    go_wp2_with fail
    refine wp_goto ?_
    change JC w0 g s 0 _ _ ∧ muC 0 _ _ < muC 1 _ _
    refine ⟨⟨n, st, _, _, _, _, _, FrC.mk .., HR.out, HD.out, hol⟩, ?_⟩
    simp [muC]
  · obtain ⟨a, r, q, hc⟩ : ∃ a r q, cut t [10] = (a, r, q) := ⟨_, _, _, rfl⟩
    have hcl := cut_len t ht
    have hcp := cut_parts t [10]
    have hsum := cut_sum t
    have hla := linesA_cons t ht
    rw [hc] at hcl hcp hla hsum
    simp only at hcl hcp hla hsum
    have hrd := HRD.out
    rw [hla, restC] at hrd
    have hnt := HBN.out.nt
    have hfsn := HBN.out.fs
    have houtn := HBN.out.out
    have CUT := Aside0.mk (show ∀ W, Env W → Calls Tryd.prog 27 #[.string (mkB t), .string ⟨#[10]⟩] W fun e w' => e = .returned (.tuple #[.string (mkB a), .string (mkB r), .bool q]) ∧ ∃ n, w' = W.drewN n from fun W hW => strings_Cut.calls (mkB t) ⟨#[10]⟩ (mkB a) (mkB r) q W hW (by
      have e2 : (mkB t).data.toList = t := rfl
      have e3 : (⟨#[10]⟩ : ByteArray).data.toList = [10] := rfl
      unfold strings_Cut.f
      rw [if_pos (by rw [mkB_size]; omega), e2, e3, hc]))
    have STEP := Aside0.mk (show ∀ st', stepC st a (n + 1) = (st', 0) → restC st' (n + 1) (linesA r) = readC s from fun st' h => by rw [h] at hrd; simpa using hrd)
    have FAIL := Aside0.mk (show ∀ e : Int, stepC st a (n + 1) = (st, e) → e ≠ 0 → readC s = ([], e, ((n + 1 : Nat) : Int)) from fun e h he => by rw [h] at hrd; simp only at hrd; rw [if_neg he] at hrd; exact hrd.symm)
    have hBM : ∀ fs, BndF (2 * (s.size - t.length) + 2 * a.length) fs → BndF (2 * (s.size - r.length)) fs := fun fs h => h.mono (by omega)
    have BSAME := Aside0.mk (show BndC s st (n + 1) r from ⟨by omega, by omega, by omega, HBN.out.f.mono (by omega)⟩)
    have k3 : ((mkB t).toList == ([] : List UInt8)) = false := beq_eq_false_iff_ne.mpr (by rw [ByteArray.toList_eq]; exact ht)
    have HC := Aside0.mk hc
    have HTL := Aside0.mk hnt
    have HAL := Aside0.mk hcp.1
    have HRL := Aside0.mk hcl
    have HFN := Aside0.mk hfsn
    have HON := Aside0.mk houtn
    have HBM := Aside0.mk hBM
    have HT := Aside0.mk ht
    have hwn : IntKind.i64.wrap ((n : Int) + 1) = (n : Int) + 1 := IntWalk.i64_in _ (by omega)
    have hnn : (n : Int) ≤ 4294967280 := by omega
    have HSUM := Aside0.mk hsum
    clear hrd hla hcl hcp hc ht hBM hnt hfsn houtn hsum
    go_wp2_with fail
    refine (CUT.out _ (HE.out.below HR.out.below)).mono ?_
    rintro e w2 ⟨rfl, nd, hq_⟩
    have HR2 := Aside0.mk (HR.out.on (w' := w2) (by rw [hq_]; exact pw_below_drewN (Below.refl _ _) nd))
    clear hq_
    go_wp2_with fail
    refine (control_fair.calls (mkB a) false (fairL false a) _ (HE.out.below HR2.out.below) (by unfold control_fair.f; rw [if_pos (by rw [mkB_size]; have := HAL.out; have := HTL.out; omega)]; rfl)).mono ?_
    rintro e w3 ⟨rfl, hb3⟩
    have HR3 := Aside0.mk (HR2.out.on hb3)
    clear hb3
    cases hfair : fairL false a with
    | false =>
      have HD := Aside0.mk (FAIL.out 212 (by unfold stepC; rw [if_pos hfair]) (by decide))
      have HRX := HR3
      clear hfair
      go_wp2_with fail
      simp only [jumps]
      go_ret3
      exact PostC.of (v := .slice none 0 0) HD.out (Kd.S_nil _ _ _ _ _) HRX.out.below
    | true =>
      have hf1 : ¬ (fairL false a = false) := by rw [hfair]; decide
      have HF1 := Aside0.mk hf1
      clear hfair hf1
      go_wp2_with fail
      refine (strings_HasPrefix.calls (mkB a) ⟨#[35]⟩ (hasPrefix a [35]) _ rfl).mono ?_
      rintro e w4 ⟨rfl, nd4, hq_⟩
      have HR4 := Aside0.mk (HR3.out.on (w' := w4) (by rw [hq_]; exact pw_below_drewN (Below.refl _ _) nd4))
      clear hq_
      cases hp : hasPrefix a [35] with
      | true =>
        have HD := Aside0.mk (STEP.out st (by unfold stepC; rw [if_neg HF1.out, if_pos hp]))
        have HN := BSAME
        have HRX := HR4
        have hrl := HRL.out
        clear hp
        go_wp2_with fail
        refine wp_goto ?_
        change JC w0 g s 1 _ _ ∧ muC 1 _ _ < muC 1 _ _
        refine ⟨⟨r, n + 1, _, _, _, _, FrC.mk .., HRX.out, HD.out, HN.out⟩, ?_⟩
        simp [muC, strSz, mkB_size]
        omega
      | false =>
        have HP1 := Aside0.mk (show ¬ (hasPrefix a [35] = true) by rw [hp]; decide)
        clear hp
        go_wp2_with fail
        refine (strings_Trim.calls (mkB a) ⟨#[32, 9]⟩ (mkB (trimC a)) _ (by unfold strings_Trim.f; rw [if_pos ⟨by rw [mkB_size]; have := HAL.out; have := HTL.out; omega, rfl⟩]; rfl)).mono ?_
        rintro e w5 ⟨rfl, hb5⟩
        have HR5 := Aside0.mk (HR4.out.on hb5)
        clear hb5
        by_cases htr : trimC a = []
        · have HD := Aside0.mk (STEP.out (gapC st) (by unfold stepC; rw [if_neg HF1.out, if_neg HP1.out, if_pos htr]))
          have c0 : ((mkB (trimC a)).toList == ([] : List UInt8)) = true := by rw [ByteArray.toList_eq, htr]; rfl
          have HN := Aside0.mk (show BndC s (gapC st) (n + 1) r from by
            unfold gapC
            split
            · exact BSAME.out
            · exact ⟨BSAME.out.nt, by simp; have := HON.out; omega, Nat.zero_le _, BndF.nil _⟩)
          have hol : st.out.length ≤ 4294967280 := by
            have := HON.out
            omega
          have hrl := HRL.out
          clear htr
          go_wp2_with fail
          refine wp_goto ?_
          change JC w0 g s 2 _ _ ∧ muC 2 _ _ < muC 1 _ _
          refine ⟨⟨r, n + 1, st, _, _, _, FrC.mk .., HR5.out, HD.out, HN.out, hol⟩, ?_⟩
          simp [muC, strSz, mkB_size]
          omega
        · have c0 : ((mkB (trimC a)).toList == ([] : List UInt8)) = false := beq_eq_false_iff_ne.mpr (by rw [ByteArray.toList_eq]; exact htr)
          have HTR := Aside0.mk htr
          clear htr
          have M3 := Aside0.mk (show (hasPrefix a [32] || hasPrefix a [9]) = true → (if st.fs = [] then (([], 210, ((n + 1 : Nat) : Int)) : List S41 × Int × Int) else restC ⟨st.out, st.line, moreC st.fs (trimC a)⟩ (n + 1) (linesA r)) = readC s from fun h => by
            split
            · rename_i hfs
              exact (FAIL.out 210 (by unfold stepC; rw [if_neg HF1.out, if_neg HP1.out, if_neg HTR.out, if_pos h, if_pos hfs]) (by decide)).symm
            · rename_i hfs
              exact STEP.out _ (by unfold stepC; rw [if_neg HF1.out, if_neg HP1.out, if_neg HTR.out, if_pos h, if_neg hfs]))
          have N3 := Aside0.mk (show BndC s ⟨st.out, st.line, moreC st.fs (trimC a)⟩ (n + 1) r from by
            have h1 := List.length_pos_iff.2 HTR.out
            have h2 := trimC_length a
            have h3 := HSUM.out
            have h4 := HTL.out
            refine ⟨BSAME.out.nt, BSAME.out.out, by show (moreC _ _).length ≤ _; unfold moreC; rw [List.length_set]; exact BSAME.out.fs, (HBN.out.f.more (trimC a)).mono (by omega)⟩)
          have hal : a.length ≤ s.size := by
            have := HAL.out
            have := HTL.out
            omega
          have hbf : BndF (2 * s.size) st.fs := HBN.out.f.mono (by omega)
          have HALS := Aside0.mk hal
          have HBF := Aside0.mk hbf
          clear hal hbf
          go_wp2_with fail
          refine (strings_HasPrefix.calls (mkB a) ⟨#[32]⟩ (hasPrefix a [32]) _ rfl).mono ?_
          rintro e w6 ⟨rfl, nd6, hq_⟩
          have HR6 := Aside0.mk (HR5.out.on (w' := w6) (by rw [hq_]; exact pw_below_drewN (Below.refl _ _) nd6))
          clear hq_
          cases h32 : hasPrefix a [32] with
          | true =>
            have HD := Aside0.mk (M3.out (by rw [h32]; rfl))
            have HRX := HR6
            have hal := HALS.out
            have hbf := HBF.out
            have hrl := HRL.out
            clear h32
            go_wp2_with fail
            refine wp_goto ?_
            change JC w0 g s 3 _ _ ∧ muC 3 _ _ < muC 1 _ _
            refine ⟨⟨r, a, n + 1, st, _, _, FrC.mk .., HRX.out, HD.out, N3.out, hal, hbf⟩, ?_⟩
            simp [muC, strSz, mkB_size]
            omega
          | false =>
            have H32 := Aside0.mk h32
            clear h32
            go_wp2_with fail
            refine (strings_HasPrefix.calls (mkB a) ⟨#[9]⟩ (hasPrefix a [9]) _ rfl).mono ?_
            rintro e w7 ⟨rfl, nd7, hq_⟩
            have HR7 := Aside0.mk (HR6.out.on (w' := w7) (by rw [hq_]; exact pw_below_drewN (Below.refl _ _) nd7))
            clear hq_
            cases h9 : hasPrefix a [9] with
            | true =>
              have HD := Aside0.mk (M3.out (by rw [h9, Bool.or_true]))
              have HRX := HR7
              have hal := HALS.out
              have hbf := HBF.out
              have hrl := HRL.out
              clear h9
              go_wp2_with fail
              refine wp_goto ?_
              change JC w0 g s 3 _ _ ∧ muC 3 _ _ < muC 1 _ _
              refine ⟨⟨r, a, n + 1, st, _, _, FrC.mk .., HRX.out, HD.out, N3.out, hal, hbf⟩, ?_⟩
              simp [muC, strSz, mkB_size]
              omega
            | false =>
              have HK := Aside0.mk (show ¬ ((hasPrefix a [32] || hasPrefix a [9]) = true) by rw [h9, H32.out]; decide)
              clear h9
              obtain ⟨ka, va, fo, hc2⟩ : ∃ ka va fo, cut a [58] = (ka, va, fo) := ⟨_, _, _, rfl⟩
              have hkp := cut_parts a [58]
              rw [hc2] at hkp
              simp only at hkp
              have CUT2 := Aside0.mk (show ∀ W, Env W → Calls Tryd.prog 27 #[.string (mkB a), .string ⟨#[58]⟩] W fun e w' => e = .returned (.tuple #[.string (mkB ka), .string (mkB va), .bool fo]) ∧ ∃ n, w' = W.drewN n from fun W hW => strings_Cut.calls (mkB a) ⟨#[58]⟩ (mkB ka) (mkB va) fo W hW (by
                have e2 : (mkB a).data.toList = a := rfl
                have e3 : (⟨#[58]⟩ : ByteArray).data.toList = [58] := rfl
                have := HALS.out
                unfold strings_Cut.f
                rw [if_pos (by rw [mkB_size]; omega), e2, e3, hc2]))
              have HKP := Aside0.mk hkp
              have STEPK := Aside0.mk (show stepC st a (n + 1) = if (!fo || !nameL ka) = true then (st, 210) else if hasF st.fs (mkB ka) = true then (st, 211) else (⟨st.out, if st.fs = [] then ((n + 1 : Nat) : Int) else st.line, st.fs ++ [⟨mkB ka, mkB (trimC va)⟩]⟩, 0) by
                unfold stepC fieldC
                rw [if_neg HF1.out, if_neg HP1.out, if_neg HTR.out, if_neg HK.out, hc2])
              clear hc2 hkp
              go_wp2_with fail
              refine (CUT2.out _ (HE.out.below HR7.out.below)).mono ?_
              rintro e w8 ⟨rfl, nd8, hq_⟩
              have HR8 := Aside0.mk (HR7.out.on (w' := w8) (by rw [hq_]; exact pw_below_drewN (Below.refl _ _) nd8))
              clear hq_
              cases fo with
              | false =>
                have HD := Aside0.mk (FAIL.out 210 (by rw [STEPK.out, if_pos (by rfl)]) (by decide))
                have HRX := HR8
                go_wp2_with fail
                simp only [jumps]
                go_ret3
                exact PostC.of (v := .slice none 0 0) HD.out (Kd.S_nil _ _ _ _ _) HRX.out.below
              | true =>
                go_wp2_with fail
                refine (control_name.calls (ka.length + 2) (mkB ka) (nameL ka) _ (name_is ka (by have := HKP.out.1; have := HALS.out; omega) _ (by omega))).mono ?_
                rintro e w9 ⟨rfl, ⟨nd9, hq_⟩⟩
                have HR9 := Aside0.mk (HR8.out.on (w' := w9) (by rw [hq_]; exact pw_below_drewN (Below.refl _ _) nd9))
                clear hq_
                cases hnm : nameL ka with
                | false =>
                  have HD := Aside0.mk (FAIL.out 210 (by rw [STEPK.out, if_pos (by rw [hnm]; rfl)]) (by decide))
                  have HRX := HR9
                  clear hnm
                  go_wp2_with fail
                  simp only [jumps]
                  go_ret3
                  exact PostC.of (v := .slice none 0 0) HD.out (Kd.S_nil _ _ _ _ _) HRX.out.below
                | true =>
                  have HNM := Aside0.mk (show ¬ ((!true || !nameL ka) = true) by rw [hnm]; decide)
                  clear hnm
                  have q0 := (blk_cell HR9.out.blk 0).trans (show _ = some (Value.int .i64 st.line) from rfl)
                  have q1 := (blk_cell HR9.out.blk 1).trans (show _ = some (Value.slice Al st.fs.length cl) from rfl)
                  go_wp2_with fail
                  refine (control_has.calls (st.fs.length + 1) st.line Al cl st.fs (mkB ka) (hasF st.fs (mkB ka)) _ (Kd.R_reads' HR9.out.l).2.2 (Kd.R_reads' HR9.out.l).2.1 (has_is st.line st.fs (mkB ka) (2 * s.size) (by omega) (by rw [mkB_size]; have := HKP.out.1; have := HALS.out; omega) (fun f hf => (HBF.out f hf).1) (by have := HFN.out; omega) _ (by omega))).mono ?_
                  rintro e w10 ⟨rfl, hb10⟩
                  have HR10 := Aside0.mk (HR9.out.on hb10)
                  clear hb10 q0 q1
                  cases hhs : hasF st.fs (mkB ka) with
                  | true =>
                    have HD := Aside0.mk (FAIL.out 211 (by rw [STEPK.out, if_neg HNM.out, if_pos hhs]) (by decide))
                    have HRX := HR10
                    clear hhs
                    go_wp2_with fail
                    simp only [jumps]
                    go_ret3
                    exact PostC.of (v := .slice none 0 0) HD.out (Kd.S_nil _ _ _ _ _) HRX.out.below
                  | false =>
                    have HST := Aside0.mk (STEP.out _ (by rw [STEPK.out, if_neg HNM.out, if_neg (by rw [hhs]; decide)]))
                    clear hhs
                    have HNL := Aside0.mk (show ∀ L : Int, BndC s ⟨st.out, L, st.fs ++ [(⟨mkB ka, mkB (trimC va)⟩ : S50)]⟩ (n + 1) r from fun L => by
                      have h1 := HKP.out
                      have h2 := HSUM.out
                      have h3 := HTL.out
                      have h4 := trimC_length va
                      refine ⟨BSAME.out.nt, BSAME.out.out, by simp; exact HFN.out, BSAME.out.f.snoc ?_ ?_⟩
                      · rw [mkB_size]; omega
                      · rw [mkB_size]; omega)
                    have TRV := Aside0.mk (show ∀ W, Calls Tryd.prog 30 #[.string (mkB va), .string ⟨#[32, 9]⟩] W fun e w' => e = .returned (.string (mkB (trimC va))) ∧ Below W.heap.size W w' from fun W => strings_Trim.calls (mkB va) (mkB blanksC) _ W (by unfold strings_Trim.f; rw [if_pos ⟨by rw [mkB_size]; have := HKP.out.2; have := HALS.out; omega, rfl⟩]; rfl))
                    have q1 := (blk_cell HR10.out.blk 1).trans (show _ = some (Value.slice Al st.fs.length cl) from rfl)
                    have q0 := (blk_cell HR10.out.blk 0).trans (show _ = some (Value.int .i64 st.line) from rfl)
                    have fz0 := blk_frozen HR10.out.blk 0
                    have fz1 := blk_frozen HR10.out.blk 1
                    have hfl : st.fs.length ≤ 4294967280 := by
                      have := HFN.out
                      omega
                    by_cases hfs : st.fs = []
                    · have hst := HST.out
                      rw [if_pos hfs] at hst
                      have HD := Aside0.mk hst
                      have HN := Aside0.mk (HNL.out ((n + 1 : Nat) : Int))
                      have c0 : ((st.fs.length : Int) == 0) = true := by rw [hfs]; rfl
                      have HRY := Aside0.mk (HR10.out.setLine ((n : Int) + 1))
                      clear hst hfs
                      go_wp2_with fail
                      go_region_law (first
                        | (refine Kd.R_append_step k50 (w0 := w0) w0.heap.size ?hw_a (.tmp 66) (.tmp 71) 39 50 (.agg #[.string ⟨#[]⟩, .string ⟨#[]⟩]) 32 ?ho_a Tryd.underlying39 info50 rfl (by decide) (by decide) (.slice Al st.fs.length cl) st.fs (⟨mkB ka, mkB (trimC va)⟩ : S50) [.string (mkB ka), .string (mkB (trimC va))] (fun k_ => k_ ≠ g) (fun _ => False) ?hs_a ?hx_a ?aP_a (fun _ hk => hk.elim) ?aF_a ?aO_a ?aB_a ?aS_a ?aL_a ?_; (case hw_a => first | rfl | simp [Region.wanted]); (case ho_a => rfl); (case hs_a => first | rfl | simp [Act.eval, Act.put]); (case hx_a => first | rfl | simp [Act.eval, Act.put]); (case aP_a => exact k50_mkM _ _ _ _); (case aF_a => exact (fun k hk e => by subst e; have := blk_lt HRZ.out.blk; omega)); (case aO_a => exact HRZ.out.l); (case aB_a => exact HRZ.out.below); (case aS_a => exact HRZ.out.below.size); (case aL_a => omega); intro v1 w13 ho hb hg hat; obtain ⟨A1, c1, e1⟩ := Kd.R_slice ho; subst e1; have hbk := blk_grown HRZ.out.blk hg (Kd.R_away HRZ.out.l (fun k hk => hk)); have y1 := blk_frozen hbk 1; have x1 := (blk_cell hbk 1).trans (show _ = some (Value.slice Al st.fs.length cl) from rfl); have HRF := Aside0.mk (RcV.appended HRZ.out ho hb hg hat); clear ho hb hg hat hbk)
                        | (refine G.step_call (by first | rfl | simp [Region.wanted]) 30 _ _ rfl #[.string (mkB va), .string ⟨#[32, 9]⟩] (by first | rfl | simp [Act.eval, Act.put]) (fun _ _ => rfl) (TRV.out _) ?_; rintro e w12 ⟨rfl, hb12⟩; refine ⟨_, rfl, ?_⟩; have HRZ := Aside0.mk (HRY.out.on (w' := w12) ((Below.refl _ _).drew.trans hb12)); have z1 := (blk_cell HRZ.out.blk 1).trans (show _ = some (Value.slice Al st.fs.length cl) from rfl); have za := (fun o : Obj => ((blk_cell (blk_alloc HRZ.out.blk o) 1).trans (show _ = some (Value.slice Al st.fs.length cl) from rfl) : (w12.alloc o).cell? ⟨g, 1, none⟩ = some (Value.slice Al st.fs.length cl))); clear hb12))
                      all_goals
                        go_wp2_with fail
                        refine wp_goto ?_
                        change JC w0 g s 1 _ _ ∧ muC 1 _ _ < muC 1 _ _
                        have hrf := HRF.out
                        rw [show (st.fs ++ [(⟨mkB ka, mkB (trimC va)⟩ : S50)]).length = st.fs.length + 1 by simp] at hrf
                        have hrl := HRL.out
                        refine ⟨⟨r, n + 1, _, _, _, _, FrC.mk .., hrf, HD.out, HN.out⟩, ?_⟩
                        simp [muC, strSz, mkB_size]
                        omega
                    · have hst := HST.out
                      rw [if_neg hfs] at hst
                      have HD := Aside0.mk hst
                      have HN := Aside0.mk (HNL.out st.line)
                      have hp := List.length_pos_iff.2 hfs
                      have c0 : ((st.fs.length : Int) == 0) = false := beq_eq_false_iff_ne.2 (by omega)
                      have HRY := HR10
                      clear hst hfs hp
                      go_wp2_with fail
                      go_region_law (first
                        | (refine Kd.R_append_step k50 (w0 := w0) w0.heap.size ?hw_b (.tmp 66) (.tmp 71) 39 50 (.agg #[.string ⟨#[]⟩, .string ⟨#[]⟩]) 32 ?ho_b Tryd.underlying39 info50 rfl (by decide) (by decide) (.slice Al st.fs.length cl) st.fs (⟨mkB ka, mkB (trimC va)⟩ : S50) [.string (mkB ka), .string (mkB (trimC va))] (fun k_ => k_ ≠ g) (fun _ => False) ?hs_b ?hx_b ?aP_b (fun _ hk => hk.elim) ?aF_b ?aO_b ?aB_b ?aS_b ?aL_b ?_; (case hw_b => first | rfl | simp [Region.wanted]); (case ho_b => rfl); (case hs_b => first | rfl | simp [Act.eval, Act.put]); (case hx_b => first | rfl | simp [Act.eval, Act.put]); (case aP_b => exact k50_mkM _ _ _ _); (case aF_b => exact (fun k hk e => by subst e; have := blk_lt HRZ.out.blk; omega)); (case aO_b => exact HRZ.out.l); (case aB_b => exact HRZ.out.below); (case aS_b => exact HRZ.out.below.size); (case aL_b => omega); intro v1 w13 ho hb hg hat; obtain ⟨A1, c1, e1⟩ := Kd.R_slice ho; subst e1; have hbk := blk_grown HRZ.out.blk hg (Kd.R_away HRZ.out.l (fun k hk => hk)); have y1 := blk_frozen hbk 1; have x1 := (blk_cell hbk 1).trans (show _ = some (Value.slice Al st.fs.length cl) from rfl); have HRF := Aside0.mk (RcV.appended HRZ.out ho hb hg hat); clear ho hb hg hat hbk)
                        | (refine G.step_call (by first | rfl | simp [Region.wanted]) 30 _ _ rfl #[.string (mkB va), .string ⟨#[32, 9]⟩] (by first | rfl | simp [Act.eval, Act.put]) (fun _ _ => rfl) (TRV.out _) ?_; rintro e w12 ⟨rfl, hb12⟩; refine ⟨_, rfl, ?_⟩; have HRZ := Aside0.mk (HRY.out.on (w' := w12) ((Below.refl _ _).drew.trans hb12)); have z1 := (blk_cell HRZ.out.blk 1).trans (show _ = some (Value.slice Al st.fs.length cl) from rfl); have za := (fun o : Obj => ((blk_cell (blk_alloc HRZ.out.blk o) 1).trans (show _ = some (Value.slice Al st.fs.length cl) from rfl) : (w12.alloc o).cell? ⟨g, 1, none⟩ = some (Value.slice Al st.fs.length cl))); clear hb12))
                      all_goals
                        go_wp2_with fail
                        refine wp_goto ?_
                        change JC w0 g s 1 _ _ ∧ muC 1 _ _ < muC 1 _ _
                        have hrf := HRF.out
                        rw [show (st.fs ++ [(⟨mkB ka, mkB (trimC va)⟩ : S50)]).length = st.fs.length + 1 by simp] at hrf
                        have hrl := HRL.out
                        refine ⟨⟨r, n + 1, _, _, _, _, FrC.mk .., hrf, HD.out, HN.out⟩, ?_⟩
                        simp [muC, strSz, mkB_size]
                        omega
end Go.Proofs.YtbaiglikmneicaaDoor.P
