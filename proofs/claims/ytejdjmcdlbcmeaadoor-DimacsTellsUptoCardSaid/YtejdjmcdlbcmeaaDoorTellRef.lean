/- The reference's ReadAnswer comes to what the program's comes to; the pure law DimacsTells. No conditions. -/
import Derived.Test.YtejdjmcdlbcmeaaDoorBodyA
import Derived.Test.YtejdjmcdlbcmeaaDoorUAx2
import Derived.Test.YtejdjmcdlbcmeaaDoorEnvA
import Derived.KernelRfl
set_option linter.unusedVariables false
set_option linter.unusedSimpArgs false
namespace Go.Proofs.YtejdjmcdlbcmeaaDoor.U
open Go.Proofs.YtejdjmcdlbcmeaaDoor.R Go.RowKit Go.Lib Go.Proofs.YtejdjmcdlbcmeaaDoorW.PrintWords Go.Proofs.YtejdjmcdlbcmeaaDoorW.PrintLast Go.Proofs.YtejdjmcdlbcmeaaDoorW.PrintMore

theorem endA_on {st : ASt} (ht : st.told = true) (hs : st.sat = true) : endA st = if st.ended then 0 else 33 := by
  unfold endA
  rw [if_neg (by rw [ht]; decide)]
  cases he : st.ended with
  | true => rw [if_neg (by simp)]; rfl
  | false => rw [if_pos ⟨hs, rfl⟩]; rfl
theorem tell_l0 (X : List ByteArray) (hX : X.length ≤ 4398046511104) (l : List S73) (hl : l.length ≤ 4398046511104) (M : Nat) (hM : M ≤ 1099511627776) (hs : ∀ w ∈ l, w.f0.size ≤ M) (d : Nat) :
    ∀ (k i : Nat) (st : ASt), st.told = true → st.sat = true → st.model.length ≤ 1048576 → i < l.length → l.length - (i + 1) = d → d + M + 5 < k →
    depotref03_ReadAnswer.l0 k X l st.model st.ended ((i + 1 : Nat) : Int) = some (bodyA X.length (l.getD i ⟨ByteArray.empty, 0⟩).f1 (l.drop (i + 1)) st) := by
  induction d with
  | zero =>
    intro k i st ht hsa hm hi hd hk
    obtain ⟨k, rfl⟩ := succ_ofr hk
    rw [depotref03_ReadAnswer.l0, if_neg (by omega), List.drop_of_length_le (by omega), w64r (by omega) (by omega)]
    rw [bodyA, endA_on ht hsa]
    cases he : st.ended with
    | true =>
      first
        | (rw [if_pos rfl, if_pos rfl, if_pos rfl, hsa]; done)
        | (simp [hsa]; done)
    | false =>
      first
        | (simp; done)
        | (simp; omega)
  | succ d ih =>
    intro k i st ht hsa hm hi hd hk
    obtain ⟨k, rfl⟩ := succ_ofr hk
    have hlt : i + 1 < l.length := by omega
    have hsz := hs l[i + 1] (List.getElem_mem hlt)
    have hdr := List.drop_eq_getElem_cons hlt
    have hprev := Aside0.mk (show (l.getD i ⟨ByteArray.empty, 0⟩).f1 = (l[i]).f1 by rw [List.getD_eq_getElem?_getD, List.getElem?_eq_getElem hi]; rfl)
    have hnext := Aside0.mk (show (l.getD (i + 1) ⟨ByteArray.empty, 0⟩).f1 = (l[i + 1]).f1 by rw [List.getD_eq_getElem?_getD, List.getElem?_eq_getElem hlt]; rfl)
    have ew := Aside0.mk (show wrap64 (((i + 1 : Nat) : Int) - 1) = (i : Int) by rw [w64r (by omega) (by omega)]; omega)
    have en := Aside0.mk (show wrap64 (((i + 1 : Nat) : Int) + 1) = ((i + 1 + 1 : Nat) : Int) by rw [w64r (by omega) (by omega)]; omega)
    have c1 : ((i + 1 : Nat) : Int) < (l.length : Int) := by omega
    have c2 : (0 : Int) ≤ ((i + 1 : Nat) : Int) := by omega
    have c3 : (0 : Int) ≤ (i : Int) := by omega
    have c4 : (i : Int) < (l.length : Int) := by omega
    rw [depotref03_ReadAnswer.l0, if_pos c1, if_pos c2, ew.out, if_pos c3, if_pos c4, rdT_nat hlt, rdT_nat hi, en.out, hdr, hprev.out, bodyA]
    have hgo : ∀ st' : ASt, st'.told = true → st'.sat = true → st'.model.length ≤ 1048576 → depotref03_ReadAnswer.l0 k X l st'.model st'.ended ((i + 1 + 1 : Nat) : Int) = some (bodyA X.length (l[i + 1]).f1 (l.drop (i + 1 + 1)) st') := fun st' h1 h2 h3 => by
      have := ih k (i + 1) st' h1 h2 h3 hlt (by omega) (by omega)
      rw [hnext.out] at this
      exact this
    clear hprev hnext ew en
    by_cases hsame : (l[i + 1]).f1 = (l[i]).f1
    · rw [if_pos hsame, if_pos hsame]
      rw [hsame] at hgo ⊢
      clear hsame
      have hT := word_tens (l[i + 1]).f0
      cases hen : st.ended with
      | true =>
        have e2 : wordA st (l[i + 1]).f0 = (st, 35) := by unfold wordA; rw [if_pos hen]
        rw [if_pos rfl, e2]
        rfl
      | false =>
        rw [if_neg (by decide), tens_is _ (by omega) k (by omega)]
        simp only [Option.bind_some]
        have hne : ¬ (st.ended = true) := by rw [hen]; decide
        cases ht2 : tensB (l[i + 1]).f0.data.toList with
        | false =>
          rw [ht2] at hT
          have e2 : wordA st (l[i + 1]).f0 = (st, 31) := by unfold wordA; rw [if_neg hne, if_pos hT]
          rw [if_neg (by decide), e2]
          rfl
        | true =>
          rw [ht2] at hT
          obtain ⟨v, hv, hn⟩ := word_val (l[i + 1]).f0 (by omega) ht2
          rw [if_pos rfl, hv]
          simp only [Option.bind_some]
          generalize hx : (numR (l[i + 1]).f0).1 = x at hn
          have hT' : ¬ (numR (l[i + 1]).f0).2 = false := by rw [hT]; decide
          unfold near at hn
          rw [show wrap64 ((st.model.length : Int) + 1) = (st.model.length : Int) + 1 from w64r (by omega) (by omega), show wrap64 (-((st.model.length : Int) + 1)) = -((st.model.length : Int) + 1) from w64r (by omega) (by omega)]
          by_cases h0 : v = 0
          · have e2 : wordA st (l[i + 1]).f0 = (⟨st.told, st.sat, st.model, true⟩, 0) := by unfold wordA; rw [if_neg hne, if_neg hT', hx, if_pos (by omega)]
            rw [if_pos h0, e2, if_pos rfl]
            exact hgo ⟨st.told, st.sat, st.model, true⟩ ht hsa hm
          · have hx0 : ¬ x = 0 := by omega
            rw [if_neg h0]
            by_cases hmx : (st.model.length : Int) + 1 ≤ 1048576
            · rw [if_pos hmx]
              have hsm : st.model.length < 140737488355328 := by omega
              by_cases h1 : v = (st.model.length : Int) + 1
              · have hxv : x = (st.model.length : Int) + 1 := by omega
                have e2 : wordA st (l[i + 1]).f0 = (⟨st.told, st.sat, st.model ++ [true], st.ended⟩, 0) := by
                  unfold wordA
                  rw [if_neg hne, if_neg hT', hx, if_neg hx0, if_pos ⟨by omega, .inl hxv⟩, decide_eq_true (by omega)]
                rw [if_pos h1, if_pos hsm, e2, if_pos rfl, beq_iff_eq.2 h1]
                have := hgo ⟨st.told, st.sat, st.model ++ [true], st.ended⟩ ht hsa (by simp only [List.length_append, List.length_cons, List.length_nil]; omega)
                rw [hen] at this ⊢
                exact this
              · rw [if_neg h1]
                by_cases h2 : v = -((st.model.length : Int) + 1)
                · have hxv : x = -((st.model.length : Int) + 1) := by omega
                  have e2 : wordA st (l[i + 1]).f0 = (⟨st.told, st.sat, st.model ++ [false], st.ended⟩, 0) := by
                    unfold wordA
                    rw [if_neg hne, if_neg hT', hx, if_neg hx0, if_pos ⟨by omega, .inr hxv⟩, decide_eq_false (by omega)]
                  rw [if_pos h2, if_pos hsm, e2, if_pos rfl, beq_eq_false_iff_ne.2 h1]
                  have := hgo ⟨st.told, st.sat, st.model ++ [false], st.ended⟩ ht hsa (by simp only [List.length_append, List.length_cons, List.length_nil]; omega)
                  rw [hen] at this ⊢
                  exact this
                · have e2 : wordA st (l[i + 1]).f0 = (st, 32) := by
                    unfold wordA
                    rw [if_neg hne, if_neg hT', hx, if_neg hx0, if_neg (by omega)]
                  rw [if_neg h2, e2]
                  rfl
            · have e2 : wordA st (l[i + 1]).f0 = (st, 32) := by
                unfold wordA
                rw [if_neg hne, if_neg hT', hx, if_neg hx0, if_neg (by omega)]
              rw [if_neg hmx, e2]
              rfl
    · rw [if_neg hsame, if_neg hsame]
      by_cases hv : ((l[i + 1]).f0).toList = kV
      · rw [if_pos hv, if_pos (show ((l[i + 1]).f0).toList = ([118] : List UInt8) from hv)]
        exact hgo st ht hsa hm
      · rw [if_neg hv, if_neg (show ¬ ((l[i + 1]).f0).toList = ([118] : List UInt8) from hv)]
theorem rdT_getD (l : List S73) (i : Nat) (h : i < l.length) : rd_T73 l (i : Int) = l[i] := rdT_nat h
theorem told_is (ws : List ByteArray) (hne : ws ≠ []) (n : Nat) (rest : List S73) (hB : ∀ x ∈ rest, x.f1 ≠ (n : Int)) (hl : (ws.map (at_ n) ++ rest).length ≤ 4398046511104) (k : Nat) (hk : ws.length < k) :
    depotref03_told.f k (ws.map (at_ n) ++ rest) = some (decide ((firstA ast0 ws).2 = 0)) := by
  have hA : ∀ x ∈ ws.map (at_ n), x.f1 = (n : Int) := fun x hx => by obtain ⟨w, _, rfl⟩ := List.mem_map.1 hx; rfl
  have hpos := List.length_pos_iff.2 hne
  have hh : depotref03_heading.f k (ws.map (at_ n) ++ rest) = some (ws.length : Int) := by
    unfold depotref03_heading.f
    have := heading_l0 (ws.map (at_ n)) rest n hA hB (by rw [List.length_map]; exact hpos) hl (ws.map (at_ n)).length k 0 (by omega) (by omega) (by rw [List.length_map]; omega)
    rw [List.length_map] at this
    exact this
  unfold depotref03_told.f
  rw [hh]
  simp only [Option.bind_some]
  by_cases h2 : ws.length = 2
  · match ws, h2, hl, hh with
    | [a, b], _, hl, _ =>
      have hp0 : (0 : Int) < ((([a, b].map (at_ n) ++ rest).length : Nat) : Int) := by simp; omega
      have hp1 : (1 : Int) < ((([a, b].map (at_ n) ++ rest).length : Nat) : Int) := by simp; omega
      have e0 : (rd_T73 ([a, b].map (at_ n) ++ rest) 0).f0 = a := rfl
      have e1 : (rd_T73 ([a, b].map (at_ n) ++ rest) 1).f0 = b := rfl
      have ef : firstA ast0 [a, b] = (if a.toList = kS then (if b.toList = kSat then (⟨true, true, [], false⟩, 0) else if b.toList = kUns then (⟨true, false, [], false⟩, 0) else (ast0, 35)) else (ast0, 35)) := rfl
      rw [if_pos (show ((([a, b].length : Nat)) : Int) = 2 from rfl), if_pos hp0, e0, if_pos hp1, e1, ef]
      by_cases h0 : a.toList = kS
      · rw [if_pos (show a.toList = ([115] : List UInt8) from h0), if_pos h0]
        by_cases h1 : b.toList = kSat
        · rw [if_pos (show b.toList = ([83, 65, 84, 73, 83, 70, 73, 65, 66, 76, 69] : List UInt8) from h1), if_pos h1]
          rfl
        · rw [if_neg (show ¬ b.toList = ([83, 65, 84, 73, 83, 70, 73, 65, 66, 76, 69] : List UInt8) from h1), if_neg h1]
          by_cases h3 : b.toList = kUns
          · rw [if_pos h3, beq_iff_eq.2 (show b.toList = ([85, 78, 83, 65, 84, 73, 83, 70, 73, 65, 66, 76, 69] : List UInt8) from h3)]
            rfl
          · rw [if_neg h3, beq_eq_false_iff_ne.2 (show b.toList ≠ ([85, 78, 83, 65, 84, 73, 83, 70, 73, 65, 66, 76, 69] : List UInt8) from h3)]
            rfl
      · rw [if_neg (show ¬ a.toList = ([115] : List UInt8) from h0), if_neg h0]
        rfl
  · rw [if_neg (by omega)]
    have ef : firstA ast0 ws = (ast0, 35) := by unfold firstA; rw [if_neg h2]
    rw [ef]
    rfl
theorem spk_mass : ∀ (L : List (List UInt8)) (n : Nat), (spkB (L.map mkB) n).length ≤ massD L := by
  intro L
  induction L with
  | nil => intro n; exact Nat.le_refl _
  | cons l r ih =>
    intro n
    rw [spk_cons, List.length_append]
    have h1 := ih (n + 1)
    have h2 := wordsB_length (mkB l)
    rw [mkB_size] at h2
    show _ ≤ l.length + 1 + massD r
    split
    · rw [List.length_nil]; omega
    · rw [List.length_map]; omega
theorem spk_small (M : Nat) : ∀ (X : List ByteArray) (n : Nat), (∀ x ∈ X, x.size ≤ M) → ∀ w ∈ spkB X n, w.f0.size ≤ M := by
  intro X
  induction X with
  | nil => intro n _ w h; simp [spkB] at h
  | cons a r ih =>
    intro n hx w h
    unfold spkB at h
    rcases List.mem_append.1 h with h | h
    · split at h
      · simp at h
      · obtain ⟨y, hy, rfl⟩ := List.mem_map.1 h
        have h1 := wordsB_size a y hy
        have h2 := hx a List.mem_cons_self
        show y.size ≤ _
        omega
    · exact ih (n + 1) (fun x hx' => hx x (List.mem_cons_of_mem _ hx')) w h
theorem answer_is (s : ByteArray) (hs : s.size ≤ 1048576) : ∃ K, ∀ k, K < k → depotref03_ReadAnswer.f k s = some (toA (readA s)) := by
  obtain ⟨M, hM0⟩ : ∃ M : Nat, M = 1048577 := ⟨_, rfl⟩
  have hsz : s.data.toList.length = s.size := by simp
  have hm := massD_lines _ s.data.toList (Nat.le_refl _)
  generalize hL : linesA s.data.toList = L at hm
  have hsp := spk_mass L 0
  have hX : (L.map mkB).length = L.length := List.length_map _
  have hXs : ∀ x ∈ L.map mkB, x.size ≤ M := fun x hx => by
    obtain ⟨l, hl, rfl⟩ := List.mem_map.1 hx
    have := hm.2.2 l hl
    rw [mkB_size]
    omega
  have hf0 := spk_small M (L.map mkB) 0 hXs
  refine ⟨(L.map mkB).length * (M + 4) + 20000000, fun k hk => ?_⟩
  unfold depotref03_ReadAnswer.f
  have hlines : depotref03_Lines.f k s = some (L.map mkB) := by
    have := lines_is s (by omega) k (by omega)
    rw [this, ← hL]
    show some ((linesL s.size s.data.toList).map mk_) = some ((linesL s.data.toList.length s.data.toList).map mkB)
    rw [hsz]
    rfl
  rw [hlines]
  simp only [Option.bind_some]
  rw [spoken_is (L.map mkB) M (by omega) (by omega) hXs (by omega) k (by omega)]
  simp only [Option.bind_some]
  have hrd : readA s = linesT L 0 ast0 := by unfold readA; rw [hL]
  rw [hrd]
  rcases lines_firstA L 0 with ⟨h1, h2⟩ | ⟨ws, m, rest, hne, h1, hB, h2⟩
  · rw [h1, h2, if_pos (show ((([] : List S73).length : Nat) : Int) = 0 from rfl), w64r (by omega) (by omega), hX]
    congr 5
    omega
  · rw [h1] at hsp hf0 ⊢
    rw [h2]
    have hpos := List.length_pos_iff.2 hne
    have hlen : (ws.map (at_ m) ++ rest).length = ws.length + rest.length := by rw [List.length_append, List.length_map]
    rw [if_neg (by omega), told_is ws hne m rest hB (by omega) k (by omega)]
    simp only [Option.bind_some]
    by_cases hf : (firstA ast0 ws).2 = 0
    · have hw2 : ws.length = 2 := by
        by_cases h : ws.length = 2
        · exact h
        · unfold firstA at hf
          rw [if_neg h] at hf
          cases hf
      rw [decide_eq_true hf, if_pos rfl, if_pos hf, if_pos (by omega), show 0 + L.length = L.length by omega]
      match ws, hw2, hf, hlen, hsp, hf0 with
      | [a, b], _, hf, hlen, hsp, hf0 =>
        have ef : firstA ast0 [a, b] = (if a.toList = kS then (if b.toList = kSat then (⟨true, true, [], false⟩, 0) else if b.toList = kUns then (⟨true, false, [], false⟩, 0) else (ast0, 35)) else (ast0, 35)) := rfl
        rw [ef] at hf ⊢
        have e1 : (rd_T73 ([a, b].map (at_ m) ++ rest) 1).f0 = b := rfl
        rw [e1]
        have h0 : a.toList = kS := by
          by_cases h : a.toList = kS
          · exact h
          · rw [if_neg h] at hf; cases hf
        rw [if_pos h0] at hf ⊢
        by_cases hu : b.toList = kUns
        · have hs2 : ¬ b.toList = kSat := by rw [hu]; decide
          rw [if_pos (show b.toList = ([85, 78, 83, 65, 84, 73, 83, 70, 73, 65, 66, 76, 69] : List UInt8) from hu), if_neg hs2, if_pos hu]
          have er : restA L.length (m : Int) rest ⟨true, false, [], false⟩ = unsA ⟨true, false, [], false⟩ rest := by unfold restA; rw [if_neg (by simp)]
          rw [er]
          cases rest with
          | nil => rfl
          | cons x r =>
            have hl2 : (2 : Int) < ((([a, b].map (at_ m) ++ x :: r).length : Nat) : Int) := by rw [hlen]; simp; omega
            rw [if_pos hl2, if_pos hl2]
            rfl
        · rw [if_neg (show ¬ b.toList = ([85, 78, 83, 65, 84, 73, 83, 70, 73, 65, 66, 76, 69] : List UInt8) from hu)]
          rw [if_neg hu] at hf ⊢
          have hs2 : b.toList = kSat := by
            by_cases h : b.toList = kSat
            · exact h
            · rw [if_neg h] at hf; cases hf
          rw [if_pos hs2]
          have er : restA L.length (m : Int) rest ⟨true, true, [], false⟩ = bodyA L.length (m : Int) rest ⟨true, true, [], false⟩ := by unfold restA; rw [if_pos rfl]
          rw [er]
          have hr := tell_l0 (L.map mkB) (by omega) ([a, b].map (at_ m) ++ rest) (by omega) M (by omega) hf0 (([a, b].map (at_ m) ++ rest).length - 2) k 1 ⟨true, true, [], false⟩ rfl rfl (by simp) (by rw [hlen]; simp; omega) rfl (by omega)
          rw [hX] at hr
          exact hr
    · have hf1 : (rd_T73 (ws.map (at_ m) ++ rest) 0).f1 = (m : Int) := by
        match ws, hne with
        | a :: r, _ => rfl
      rw [decide_eq_false hf, if_neg (show ¬ (false = true) by decide), if_pos (by omega), hf1, if_neg hf]
theorem sameBools_l0 (l : List Bool) (hl : l.length ≤ 4398046511104) (d : Nat) : ∀ (k i : Nat), i ≤ l.length → l.length - i = d → d < k → depotref00_SameBools.l0 k l l (i : Int) = some true := by
  induction d with
  | zero =>
    intro k i h0 hd hk
    obtain ⟨k, rfl⟩ := succ_ofr hk
    rw [depotref00_SameBools.l0, if_neg (by omega)]
  | succ d ih =>
    intro k i h0 hd hk
    obtain ⟨k, rfl⟩ := succ_ofr hk
    rw [depotref00_SameBools.l0, if_pos (by omega), if_pos (by omega), if_pos (by omega), if_neg (by simp), w64r (by omega) (by omega)]
    exact ih k (i + 1) (by omega) (by omega) (by omega)
theorem sameBools_self (l : List Bool) (hl : l.length ≤ 4398046511104) (k : Nat) (hk : l.length < k) : depotref00_SameBools.f k l l = some true := by
  unfold depotref00_SameBools.f
  rw [if_pos rfl]
  exact sameBools_l0 l hl l.length k 0 (by omega) (by omega) hk
theorem linesT_small : ∀ (L : List (List UInt8)) (n : Nat) (st : ASt), st.model.length ≤ 1048576 → (linesT L n st).1.model.length ≤ 1048576 := by
  intro L
  induction L with
  | nil => intro n st h; exact h
  | cons l r ih =>
    intro n st h
    rw [linesT_cons]
    have hl := lineA_length st (wordsB (mkB l)) h
    split
    · exact ih (n + 1) st h
    · split
      · exact ih (n + 1) _ hl
      · exact hl
theorem read_oneA : readA (⟨#[115, 32, 83, 65, 84, 73, 83, 70, 73, 65, 66, 76, 69, 10, 118, 32, 48, 10]⟩ : ByteArray) = (⟨true, true, [], true⟩, 0, 0) := by kernel_rfl
theorem answer_f (s : ByteArray) (hs : s.size ≤ 4294967280) : dimacs_ReadAnswer.f s = some (toA (readA s)) := by
  unfold dimacs_ReadAnswer.f R.dimacs_ReadAnswer.f
  rw [if_pos hs]
  unfold toA
  by_cases h : (readA s).2.1 = 0
  · rw [if_pos h, if_pos h]
  · rw [if_neg h, if_neg h]
theorem dimacsTells_pure (s : ByteArray) (hs : s.size ≤ 1048576) : ∃ k, depotlaw03_DimacsTells.f k s = some true := by
  obtain ⟨K, hK⟩ := answer_is s hs
  have hm : (toA (readA s)).2.1.length ≤ 1048576 := by
    have := linesT_small (linesA s.data.toList) 0 ast0 (Nat.zero_le _)
    unfold toA
    split
    · exact this
    · exact Nat.zero_le _
  refine ⟨K + 1048578, ?_⟩
  unfold depotlaw03_DimacsTells.f
  rw [answer_f s (by omega), hK _ (by omega), answer_f _ (by decide), read_oneA]
  generalize toA (readA s) = r at hm
  simp only [Option.bind_some]
  rw [if_pos (by simp), if_pos trivial, if_pos trivial, sameBools_self r.2.1 (by omega) _ (by omega)]
  rfl
end Go.Proofs.YtejdjmcdlbcmeaaDoor.U
