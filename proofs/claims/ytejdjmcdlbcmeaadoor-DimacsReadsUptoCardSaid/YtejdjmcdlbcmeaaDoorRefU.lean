/- What the reference's Read comes to: what the program's reading comes to. No conditions. -/
import Derived.Test.YtejdjmcdlbcmeaaDoorBodyU
import Derived.Test.YtejdjmcdlbcmeaaDoorUx6
set_option linter.unusedVariables false
set_option linter.unusedSimpArgs false
namespace Go.Proofs.YtejdjmcdlbcmeaaDoor.U
open Go.Proofs.YtejdjmcdlbcmeaaDoor.R Go.RowKit Go.Lib Go.Proofs.YtejdjmcdlbcmeaaDoorW.PrintWords Go.Proofs.YtejdjmcdlbcmeaaDoorW.PrintLast Go.Proofs.YtejdjmcdlbcmeaaDoorW.PrintMore

theorem read_l0 (X : List ByteArray) (hX : X.length ≤ 4398046511104) (l : List S73) (hl : l.length ≤ 4398046511104) (h3 : 3 < l.length) (C V : Int) (hV0 : 0 ≤ V) (hV1 : V ≤ 1048576) (hC : depotref03_Value.f ((rd_T73 l 3).f0) = some C) (M : Nat) (hM : M ≤ 1099511627776) (hs : ∀ w ∈ l, w.f0.size ≤ M) (d : Nat) :
    ∀ (k i : Nat) (c : List Int) (cls : List (List Int)), i ≤ l.length → l.length - i = d → 2 * d + M + 5 < k → c.length ≤ i → cls.length ≤ i →
    depotref03_Read.l0 k X l c (i : Int) V cls = some (bodyD X.length (l.drop i) ⟨true, C, V, cls, c⟩) := by
  induction d with
  | zero =>
    intro k i c cls hi hd hk hc hcl
    obtain ⟨k, rfl⟩ := succ_ofr hk
    rw [depotref03_Read.l0, if_neg (by omega), List.drop_of_length_le (by omega), hC, w64r (by omega) (by omega)]
    have e : bodyD X.length [] ⟨true, C, V, cls, c⟩ = if endD ⟨true, C, V, cls, c⟩ = 0 then (V, cls, 0, 0) else (0, [], endD ⟨true, C, V, cls, c⟩, ((X.length + 1 : Nat) : Int)) := rfl
    rw [e]
    by_cases h1 : 0 < c.length
    · have e2 : endD ⟨true, C, V, cls, c⟩ = 33 := by unfold endD; rw [if_neg (show ¬ (true = false) by decide), if_pos h1]
      rw [if_pos (show (c.length : Int) > 0 by omega), e2, if_neg (by decide)]
      rfl
    · rw [if_neg (show ¬ (c.length : Int) > 0 by omega), if_pos (by omega)]
      simp only [Option.bind_some]
      by_cases h2 : (cls.length : Int) = C
      · have e2 : endD ⟨true, C, V, cls, c⟩ = 0 := by unfold endD; rw [if_neg (show ¬ (true = false) by decide), if_neg h1, if_neg (by simpa using h2)]
        rw [if_pos h2, e2, if_pos rfl]
      · have e2 : endD ⟨true, C, V, cls, c⟩ = 34 := by unfold endD; rw [if_neg (show ¬ (true = false) by decide), if_neg h1, if_pos (by simpa using h2)]
        rw [if_neg h2, e2, if_neg (by decide)]
        rfl
  | succ d ih =>
    intro k i c cls hi hd hk hc hcl
    obtain ⟨k, rfl⟩ := succ_ofr hk
    obtain ⟨k, rfl⟩ := succ_ofr (show 0 < k by omega)
    have hlt : i < l.length := by omega
    have hsz := hs l[i] (List.getElem_mem hlt)
    have hdr := List.drop_eq_getElem_cons hlt
    rw [depotref03_Read.l0, if_pos (by omega), if_pos (by omega), rdT_nat hlt, tens_is _ (by omega) (k + 1) (by omega), hdr]
    simp only [Option.bind_some]
    have e : ∀ st : FSt, bodyD X.length (l[i] :: l.drop (i + 1)) st = if (wordD st (l[i]).f0).2 = 0 then bodyD X.length (l.drop (i + 1)) (wordD st (l[i]).f0).1 else (0, [], (wordD st (l[i]).f0).2, (l[i]).f1) := fun _ => rfl
    rw [e]
    have hT := word_tens (l[i]).f0
    cases ht : tensB (l[i]).f0.data.toList with
    | false =>
      rw [ht] at hT
      have e2 : wordD ⟨true, C, V, cls, c⟩ (l[i]).f0 = (⟨true, C, V, cls, c⟩, 31) := by unfold wordD; rw [if_pos hT]
      rw [if_neg (by decide), e2]
      rfl
    | true =>
      rw [ht] at hT
      obtain ⟨v, hv, hn⟩ := word_val (l[i]).f0 (by omega) ht
      rw [if_pos rfl, hv]
      simp only [Option.bind_some]
      generalize hx : (numR (l[i]).f0).1 = x at hn
      have hT' : ¬ (numR (l[i]).f0).2 = false := by rw [hT]; decide
      unfold near at hn
      rw [w64r (x := -V) (by omega) (by omega)]
      have bad : (v > V ∨ v < -V) → wordD ⟨true, C, V, cls, c⟩ (l[i]).f0 = (⟨true, C, V, cls, c⟩, 32) := by
        intro hb
        unfold wordD
        rw [if_neg hT', hx, if_neg (by omega), if_neg]
        unfold litV
        rw [Bool.and_eq_true, decide_eq_true_eq, decide_eq_true_eq]
        simp only
        omega
      have jbad : depotref03_Read.j1 (k + 1) X l c (i : Int) v true V cls = some (0, [], 32, (l[i]).f1) := by
        rw [depotref03_Read.j1, if_pos rfl, if_pos (by omega), if_pos (by omega), rdT_nat hlt]
      by_cases h1 : v > V
      · rw [if_pos h1, jbad, bad (Or.inl h1)]
        rfl
      · rw [if_neg h1]
        by_cases h2 : v < -V
        · rw [decide_eq_true h2, jbad, bad (Or.inr h2)]
          rfl
        · rw [decide_eq_false h2, depotref03_Read.j1, if_neg (by decide), w64r (by omega) (by omega)]
          have hvx : v = x := by omega
          by_cases h0 : v = 0
          · have e2 : wordD ⟨true, C, V, cls, c⟩ (l[i]).f0 = (⟨true, C, V, cls ++ [c], []⟩, 0) := by unfold wordD; rw [if_neg hT', hx, if_pos (by omega)]
            rw [if_pos h0, if_pos (by omega), e2, if_pos rfl]
            exact ih k (i + 1) [] (cls ++ [c]) (by omega) (by omega) (by omega) (Nat.zero_le _) (by rw [List.length_append, List.length_singleton]; omega)
          · have e2 : wordD ⟨true, C, V, cls, c⟩ (l[i]).f0 = (⟨true, C, V, cls, c ++ [v]⟩, 0) := by
              unfold wordD
              rw [if_neg hT', hx, if_neg (by omega), if_pos]
              · rw [hvx]
              · unfold litV
                rw [Bool.and_eq_true, decide_eq_true_eq, decide_eq_true_eq]
                simp only
                omega
            rw [if_neg h0, if_pos (by omega), e2, if_pos rfl]
            exact ih k (i + 1) (c ++ [v]) cls (by omega) (by omega) (by omega) (by rw [List.length_append, List.length_singleton]; omega) (by omega)
theorem headR_other (ws : List ByteArray) (h : ws.length ≠ 4) : headR ws = (0, 0, false) := by
  match ws, h with
  | [], _ => rfl
  | [_], _ => rfl
  | [_, _], _ => rfl
  | [_, _, _], _ => rfl
  | [_, _, _, _], h => exact absurd rfl h
  | _ :: _ :: _ :: _ :: _ :: _, _ => rfl
theorem head_is' (ws : List ByteArray) (hne : ws ≠ []) (n : Nat) (rest : List S73) (hB : ∀ x ∈ rest, x.f1 ≠ (n : Int)) (M : Nat) (hM : M ≤ 1099511627776) (hs : ∀ w ∈ ws, w.size ≤ M) (hl : (ws.map (at_ n) ++ rest).length ≤ 4398046511104) (k : Nat) (hk : ws.length + M + 4 < k) :
    depotref03_head.f k (ws.map (at_ n) ++ rest) = some (headR ws).2.2 ∧
      ((headR ws).2.2 = true → ws.length = 4 ∧ depotref03_Value.f ((rd_T73 (ws.map (at_ n) ++ rest) 2).f0) = some (headR ws).1 ∧ depotref03_Value.f ((rd_T73 (ws.map (at_ n) ++ rest) 3).f0) = some (headR ws).2.1 ∧ 0 ≤ (headR ws).1 ∧ (headR ws).1 ≤ 1048576) := by
  have hA : ∀ x ∈ ws.map (at_ n), x.f1 = (n : Int) := fun x hx => by obtain ⟨w, _, rfl⟩ := List.mem_map.1 hx; rfl
  have hpos := List.length_pos_iff.2 hne
  obtain ⟨k, rfl⟩ := succ_ofr hk
  have hh : depotref03_heading.f (k + 1) (ws.map (at_ n) ++ rest) = some (ws.length : Int) := by
    unfold depotref03_heading.f
    have := heading_l0 (ws.map (at_ n)) rest n hA hB (by rw [List.length_map]; exact hpos) hl (ws.map (at_ n)).length (k + 1) 0 (by omega) (by omega) (by rw [List.length_map]; omega)
    rw [List.length_map] at this
    exact this
  unfold depotref03_head.f
  rw [hh]
  simp only [Option.bind_some]
  by_cases h4 : ws.length = 4
  · match ws, h4, hs, hl, hk with
    | [a, b, c, d], _, hs, hl, hk =>
      rw [if_pos (show (([a, b, c, d].length : Nat) : Int) = 4 from rfl)]
      have hl4 : ((([a, b, c, d].map (at_ n) ++ rest).length : Nat) : Int) = rest.length + 4 := by simp; omega
      have hp0 : (0 < ((([a, b, c, d].map (at_ n) ++ rest).length : Nat) : Int)) = True := eq_true (by omega)
      have hp1 : (1 < ((([a, b, c, d].map (at_ n) ++ rest).length : Nat) : Int)) = True := eq_true (by omega)
      have hp2 : (2 < ((([a, b, c, d].map (at_ n) ++ rest).length : Nat) : Int)) = True := eq_true (by omega)
      have hp3 : (3 < ((([a, b, c, d].map (at_ n) ++ rest).length : Nat) : Int)) = True := eq_true (by omega)
      have r0 : (rd_T73 ([a, b, c, d].map (at_ n) ++ rest) 0).f0 = a := rfl
      have r1 : (rd_T73 ([a, b, c, d].map (at_ n) ++ rest) 1).f0 = b := rfl
      have r2 : (rd_T73 ([a, b, c, d].map (at_ n) ++ rest) 2).f0 = c := rfl
      have r3 : (rd_T73 ([a, b, c, d].map (at_ n) ++ rest) 3).f0 = d := rfl
      have sc := hs c (by simp)
      have sd := hs d (by simp)
      have jt : depotref03_head.j0 (k + 1) ([a, b, c, d].map (at_ n) ++ rest) true = some false := by rw [depotref03_head.j0, if_pos rfl]
      have j0 : depotref03_head.j0 (k + 1) ([a, b, c, d].map (at_ n) ++ rest) false = (depotref03_Value.f c).bind fun t229 => (depotref03_Value.f d).bind fun t231 => (if t229 ≥ 0 then (if t229 ≤ 1048576 then (if t231 ≥ 0 then (some (decide (t231 ≤ 2147483647))) else (some false)) else (some false)) else (some false)) := by
        rw [depotref03_head.j0, if_neg (by decide)]
        simp only [hp2, hp3, if_true, r2, r3]
      simp only [hp0, hp1, hp2, hp3, if_true, r0, r1, r2, r3]
      rw [tens_is c (by omega) _ (by omega), tens_is d (by omega) _ (by omega), jt]
      simp only [Option.bind_some]
      have eH : headR [a, b, c, d] = if a.toList = [112] ∧ b.toList = [99, 110, 102] then headN (numR c) (numR d) else (0, 0, false) := rfl
      rw [eH]
      by_cases ha : a.toList = [112]
      · by_cases hb : b.toList = [99, 110, 102]
        · rw [if_pos ha, if_pos hb, if_pos (show a.toList = [112] ∧ b.toList = [99, 110, 102] from ⟨ha, hb⟩)]
          have hTc := word_tens c
          have hTd := word_tens d
          unfold headN
          try simp only
          cases tc : tensB c.data.toList with
          | false =>
            rw [tc] at hTc
            rw [hTc, if_neg (by decide)]
            simp
          | true =>
            rw [tc] at hTc
            rw [if_pos rfl, hTc]
            cases td : tensB d.data.toList with
            | false =>
              rw [td] at hTd
              rw [hTd, show (!false) = true from rfl, jt]
              simp
            | true =>
              rw [td] at hTd
              obtain ⟨v, hv, hn⟩ := word_val c (by omega) tc
              obtain ⟨u, hu, hm⟩ := word_val d (by omega) td
              rw [hTd, show (!true) = false from rfl, j0, hv, hu]
              simp only [Option.bind_some]
              generalize (numR c).1 = x at hn
              generalize (numR d).1 = y at hm
              unfold near at hn hm
              simp only [Bool.true_and, Bool.and_eq_true, decide_eq_true_eq]
              refine ⟨?_, fun hq => ⟨rfl, congrArg some (by omega), congrArg some (by omega), by omega, by omega⟩⟩
              by_cases q1 : 0 ≤ x
              · rw [if_pos (by omega), decide_eq_true q1, Bool.true_and]
                by_cases q2 : x ≤ 1048576
                · rw [if_pos (by omega), decide_eq_true q2, Bool.true_and]
                  by_cases q3 : 0 ≤ y
                  · rw [if_pos (by omega), decide_eq_true q3, Bool.true_and]
                    exact congrArg some (decide_eq_decide.2 (by omega))
                  · rw [if_neg (by omega), decide_eq_false q3]; rfl
                · rw [if_neg (by omega), decide_eq_false q2]; rfl
              · rw [if_neg (by omega), decide_eq_false q1]; rfl
        · rw [if_pos ha, if_neg hb, if_neg (show ¬ (a.toList = [112] ∧ b.toList = [99, 110, 102]) from fun h => hb h.2)]
          exact ⟨rfl, fun h => by cases h⟩
      · rw [if_neg ha, if_neg (show ¬ (a.toList = [112] ∧ b.toList = [99, 110, 102]) from fun h => ha h.1)]
        exact ⟨rfl, fun h => by cases h⟩
  · rw [if_neg (by omega), headR_other ws h4, depotref03_head.j0, if_pos rfl]
    exact ⟨rfl, fun h => by cases h⟩
end Go.Proofs.YtejdjmcdlbcmeaaDoor.U
