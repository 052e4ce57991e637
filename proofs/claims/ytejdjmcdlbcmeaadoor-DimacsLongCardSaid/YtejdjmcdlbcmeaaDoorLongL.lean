/- The text of an answer, line by line: how it reads, and how long its lines are. No conditions. -/
import Derived.Test.YtejdjmcdlbcmeaaDoorBackD
import Derived.Test.YtejdjmcdlbcmeaaDoorEnvL
set_option linter.unusedVariables false
set_option linter.unusedSimpArgs false
namespace Go.Proofs.YtejdjmcdlbcmeaaDoor.T
open Go.Proofs.YtejdjmcdlbcmeaaDoor.R Go.RowKit Go.Lib Go.Proofs.YtejdjmcdlbcmeaaDoorW.PrintWords Go.Proofs.YtejdjmcdlbcmeaaDoorW.PrintLast Go.Proofs.YtejdjmcdlbcmeaaDoorW.PrintMore
open Go.Proofs.YtejdjmcdlbcmeaaDoor.P (wordN putR headS sayS saysT unsatT wordN_length numAt_range)

def unl : List (List UInt8) → List UInt8
  | [] => []
  | a :: r => a ++ 10 :: unl r
theorem unl_app : ∀ a b : List (List UInt8), unl (a ++ b) = unl a ++ unl b
  | [], b => rfl
  | x :: a, b => by simp [unl, unl_app a b]
def no10 (l : List UInt8) : Prop := ∀ c ∈ l, c ≠ 10
theorem lines_unl : ∀ ls : List (List UInt8), (∀ l ∈ ls, no10 l) → linesA (unl ls) = ls
  | [], _ => rfl
  | a :: r, h => by
    have ha := h a List.mem_cons_self
    have hc : cut (a ++ 10 :: unl r) [10] = (a, unl r, true) := by
      rw [cut_run a _ ha, cut_cons, if_pos rfl]
      simp
    have hne : a ++ 10 :: unl r ≠ [] := by simp
    show linesA (a ++ 10 :: unl r) = _
    rw [linesA_cons _ hne, hc, lines_unl r (fun l hl => h l (List.mem_cons_of_mem _ hl))]
/-- A line of numbers. -/
def vL (ns : List Int) : List UInt8 := 118 :: ns.flatMap wordN
theorem words_nums : ∀ (ns : List Int) (w : List UInt8), w ≠ [] → (∀ c ∈ w, blankR c.toNat = false) → wordsL [] (w ++ ns.flatMap wordN) = w :: ns.map itoa
  | [], w, hw, hb => by simp [wordsL_end w hw hb]
  | n :: ns, w, hw, hb => by
    have e : w ++ (n :: ns).flatMap wordN = w ++ 32 :: (itoa n ++ ns.flatMap wordN) := by simp [wordN]
    rw [e, wordsL_next w hw hb 32 rfl, words_nums ns (itoa n) (itoa_bytes n).1 (fun c hc => (itoa_wordy n c hc).1)]
    rfl
theorem words_vL (ns : List Int) : wordsB (mkB (vL ns)) = mkB [118] :: ns.map (fun n => mkB (itoa n)) := by
  have h := words_nums ns [118] (by simp) (fun c hc => by obtain rfl := List.mem_singleton.1 hc; rfl)
  rw [words_mk]
  show (wordsL [] ([118] ++ ns.flatMap wordN)).map mkB = _
  rw [h]
  simp
theorem no10_vL (ns : List Int) : no10 (vL ns) := by
  intro c hc
  unfold vL at hc
  rcases List.mem_cons.1 hc with rfl | hc
  · decide
  · obtain ⟨n, _, hc⟩ := List.mem_flatMap.1 hc
    rcases List.mem_cons.1 hc with rfl | hc
    · decide
    · exact (itoa_wordy n c hc).2
theorem idle_vL (ns : List Int) : idleB (vL ns) = false := by
  unfold idleB
  rw [words_vL]
  rfl
theorem mkB_toList (l : List UInt8) : (mkB l).toList = l := by rw [ByteArray.toList_eq]; rfl
theorem line_vL (st : ASt) (ns : List Int) (ht : st.told = true) (hs : st.sat = true) : lineA st (wordsB (mkB (vL ns))) = wordsA st (ns.map (fun n => mkB (itoa n))) := by
  rw [words_vL]
  unfold lineA
  rw [if_neg (by rw [ht]; decide), if_neg (by rw [hs]; decide), if_pos (show (w_ (mkB [118] :: ns.map (fun n => mkB (itoa n))) 0).toList = kV from mkB_toList [118])]
  rfl
theorem wordA_told' (st : ASt) (w : ByteArray) : (wordA st w).1.told = st.told ∧ (wordA st w).1.sat = st.sat := by
  unfold wordA
  repeat' split
  all_goals exact ⟨rfl, rfl⟩
theorem wordsA_told' : ∀ (ws : List ByteArray) (st : ASt), (wordsA st ws).1.told = st.told ∧ (wordsA st ws).1.sat = st.sat := by
  intro ws
  induction ws with
  | nil => intro st; exact ⟨rfl, rfl⟩
  | cons w r ih =>
    intro st
    have h := wordA_told' st w
    have h2 := ih (wordA st w).1
    unfold wordsA
    split
    · exact ⟨h2.1.trans h.1, h2.2.trans h.2⟩
    · exact h
theorem wordsA_app : ∀ (a b : List ByteArray) (st : ASt), (wordsA st a).2 = 0 → wordsA st (a ++ b) = wordsA (wordsA st a).1 b
  | [], b, st, _ => rfl
  | w :: a, b, st, h => by
    have e : ∀ r, wordsA st (w :: r) = if (wordA st w).2 = 0 then wordsA (wordA st w).1 r else wordA st w := fun _ => rfl
    rw [e] at h
    rw [List.cons_append, e, e]
    by_cases hw : (wordA st w).2 = 0
    · rw [if_pos hw] at h
      rw [if_pos hw, if_pos hw]
      exact wordsA_app a b _ h
    · rw [if_neg hw] at h
      exact absurd h hw
theorem wordsA_first : ∀ (a b : List ByteArray) (st : ASt), (wordsA st (a ++ b)).2 = 0 → (wordsA st a).2 = 0
  | [], b, st, _ => rfl
  | w :: a, b, st, h => by
    have e : ∀ r, wordsA st (w :: r) = if (wordA st w).2 = 0 then wordsA (wordA st w).1 r else wordA st w := fun _ => rfl
    rw [List.cons_append, e] at h
    rw [e]
    by_cases hw : (wordA st w).2 = 0
    · rw [if_pos hw] at h
      rw [if_pos hw]
      exact wordsA_first a b _ h
    · rw [if_neg hw] at h
      exact absurd h hw
theorem linesT_nums : ∀ (LL : List (List Int)) (n : Nat) (st : ASt), st.told = true → st.sat = true → (wordsA st (LL.flatten.map (fun n => mkB (itoa n)))).2 = 0 →
    linesT (LL.map vL) n st = linesT [] (n + LL.length) (wordsA st (LL.flatten.map (fun n => mkB (itoa n)))).1
  | [], n, st, _, _, _ => rfl
  | ns :: LL, n, st, ht, hs, h => by
    have e : linesT ((ns :: LL).map vL) n st = if idleB (vL ns) then linesT (LL.map vL) (n + 1) st else if (lineA st (wordsB (mkB (vL ns)))).2 = 0 then linesT (LL.map vL) (n + 1) (lineA st (wordsB (mkB (vL ns)))).1 else ((lineA st (wordsB (mkB (vL ns)))).1, (lineA st (wordsB (mkB (vL ns)))).2, n + 1) := rfl
    have ef : ((ns :: LL).flatten.map (fun n => mkB (itoa n))) = ns.map (fun n => mkB (itoa n)) ++ LL.flatten.map (fun n => mkB (itoa n)) := by simp
    rw [ef] at h ⊢
    have h1 := wordsA_first _ _ _ h
    have h2 := wordsA_app _ (LL.flatten.map (fun n => mkB (itoa n))) st h1
    rw [h2] at h ⊢
    have ht2 := wordsA_told' (ns.map (fun n => mkB (itoa n))) st
    rw [e, idle_vL, if_neg (by decide), line_vL st ns ht hs, if_pos h1, linesT_nums LL (n + 1) _ (ht2.1.trans ht) (ht2.2.trans hs) h, List.length_cons, show n + 1 + LL.length = n + (LL.length + 1) by omega]
/-- The numbers of the first places. -/
def numsM (m : List Bool) : Nat → List Int
  | 0 => []
  | k + 1 => numsM m k ++ [P.numAt m k]
theorem wordA_num (m : List Bool) (i : Nat) (hi : i < m.length) (hm : m.length ≤ 1048576) : wordA ⟨true, true, m.take i, false⟩ (mkB (itoa (P.numAt m i))) = (⟨true, true, m.take (i + 1), false⟩, 0) := by
  have hl : (m.take i).length = i := by rw [List.length_take]; omega
  have ht : m.take (i + 1) = m.take i ++ [m[i]] := List.take_succ_eq_append_getElem hi
  have hg : m.getD i false = m[i] := by rw [List.getD_eq_getElem?_getD, List.getElem?_eq_getElem hi]; rfl
  have hn : P.numAt m i = if m[i] then (i : Int) + 1 else -(i : Int) - 1 := by unfold P.numAt; rw [hg]
  unfold wordA
  cases hb : m[i] with
  | true =>
    rw [hb, if_pos rfl] at hn
    rw [hn, numR_itoa _ (by omega) (by omega)]
    simp only [hl]
    rw [if_neg (by decide), if_neg (by decide), if_neg (by omega), if_pos ⟨by omega, .inl (by first | trivial | rfl)⟩, decide_eq_true (by omega), ht, hb]
  | false =>
    rw [hb, if_neg (by decide)] at hn
    rw [hn, numR_itoa _ (by omega) (by omega)]
    simp only [hl]
    rw [if_neg (by decide), if_neg (by decide), if_neg (by omega), if_pos ⟨by omega, .inr (by first | trivial | omega)⟩, decide_eq_false (by omega), ht, hb]
theorem wordsA_nums (m : List Bool) (hm : m.length ≤ 1048576) : ∀ k, k ≤ m.length → wordsA ⟨true, true, [], false⟩ ((numsM m k).map (fun n => mkB (itoa n))) = (⟨true, true, m.take k, false⟩, 0)
  | 0, _ => rfl
  | k + 1, h => by
    have ih := wordsA_nums m hm k (by omega)
    have e : (numsM m (k + 1)).map (fun n => mkB (itoa n)) = (numsM m k).map (fun n => mkB (itoa n)) ++ [mkB (itoa (P.numAt m k))] := by simp [numsM]
    rw [e, wordsA_app _ _ _ (by rw [ih]), ih]
    have e2 : wordsA ⟨true, true, m.take k, false⟩ [mkB (itoa (P.numAt m k))] = if (wordA ⟨true, true, m.take k, false⟩ (mkB (itoa (P.numAt m k)))).2 = 0 then ((wordA ⟨true, true, m.take k, false⟩ (mkB (itoa (P.numAt m k)))).1, 0) else wordA ⟨true, true, m.take k, false⟩ (mkB (itoa (P.numAt m k))) := rfl
    rw [e2, wordA_num m k (by omega) hm, if_pos rfl]
theorem wordsA_all (m : List Bool) (hm : m.length ≤ 1048576) : wordsA ⟨true, true, [], false⟩ ((numsM m m.length ++ [0]).map (fun n => mkB (itoa n))) = (⟨true, true, m, true⟩, 0) := by
  have ih := wordsA_nums m hm m.length (Nat.le_refl _)
  rw [List.map_append, wordsA_app _ _ _ (by rw [ih]), ih, List.take_length]
  have e : wordA ⟨true, true, m, false⟩ (mkB (itoa 0)) = (⟨true, true, m, true⟩, 0) := by
    unfold wordA
    rw [numR_itoa 0 (by decide) (by decide)]
    rfl
  have e2 : wordsA ⟨true, true, m, false⟩ ([0].map (fun n => mkB (itoa n))) = if (wordA ⟨true, true, m, false⟩ (mkB (itoa 0))).2 = 0 then ((wordA ⟨true, true, m, false⟩ (mkB (itoa 0))).1, 0) else wordA ⟨true, true, m, false⟩ (mkB (itoa 0)) := rfl
  rw [e2, e, if_pos rfl]

/-! ### the lines' widths -/
/-- How long the first number of a line is. -/
def fw (b : List UInt8) : Nat := ((b.drop 2).takeWhile (· ≠ 32)).length
/-- Lines of at most 78 bytes, none shorter than need be, but for the first two. -/
def okL : Nat → Nat → List (List UInt8) → Prop
  | _, _, [] => True
  | kk, p, b :: r => b.length ≤ 78 ∧ (1 < kk → 78 < p + 1 + fw b) ∧ okL (kk + 1) b.length r
def lastLen (p : Nat) : List (List UInt8) → Nat
  | [] => p
  | b :: r => lastLen b.length r
theorem okL_snoc : ∀ (ls : List (List UInt8)) (kk p : Nat) (c : List UInt8), okL kk p (ls ++ [c]) ↔ okL kk p ls ∧ c.length ≤ 78 ∧ (1 < kk + ls.length → 78 < lastLen p ls + 1 + fw c)
  | [], kk, p, c => by simp [okL, lastLen]
  | b :: r, kk, p, c => by
    have ih := okL_snoc r (kk + 1) b.length c
    show (b.length ≤ 78 ∧ (1 < kk → 78 < p + 1 + fw b) ∧ okL (kk + 1) b.length (r ++ [c])) ↔ _
    rw [ih]
    show _ ↔ (b.length ≤ 78 ∧ (1 < kk → 78 < p + 1 + fw b) ∧ okL (kk + 1) b.length r) ∧ c.length ≤ 78 ∧ (1 < kk + (r.length + 1) → 78 < lastLen b.length r + 1 + fw c)
    rw [show kk + (r.length + 1) = kk + 1 + r.length by omega]
    constructor
    · rintro ⟨h1, h2, h3, h4, h5⟩; exact ⟨⟨h1, h2, h3⟩, h4, h5⟩
    · rintro ⟨⟨h1, h2, h3⟩, h4, h5⟩; exact ⟨h1, h2, h3, h4, h5⟩
theorem lastLen_snoc : ∀ (ls : List (List UInt8)) (p : Nat) (c : List UInt8), lastLen p (ls ++ [c]) = c.length
  | [], p, c => rfl
  | b :: r, p, c => lastLen_snoc r b.length c
theorem fw_vL (n : Int) (ns : List Int) : fw (vL (n :: ns)) = (itoa n).length := by
  unfold fw
  have e : (vL (n :: ns)).drop 2 = itoa n ++ ns.flatMap wordN := by simp [vL, wordN]
  rw [e]
  have hb : ∀ c ∈ itoa n, decide (c ≠ 32) = true := fun c hc => by
    have := (itoa_wordy n c hc).1
    refine decide_eq_true ?_
    rintro rfl
    exact absurd this (by decide)
  rw [List.takeWhile_append_of_pos hb]
  cases ns with
  | nil => simp
  | cons x r => simp [wordN]
/-- The shape of what has been written. -/
structure Sh (s : List UInt8 × List UInt8) (all : List Int) : Prop where
  ex : ∃ (LS : List (List Int)) (ns : List Int), s.1 = headS ++ unl (LS.map vL) ∧ s.2 = vL ns ∧ (LS ≠ [] → ns ≠ []) ∧ okL 1 13 (LS.map vL ++ [vL ns]) ∧ LS.flatten ++ ns = all
theorem vL_snoc (ns : List Int) (n : Int) : vL (ns ++ [n]) = vL ns ++ wordN n := by simp [vL]
theorem Sh.put {s : List UInt8 × List UInt8} {all : List Int} (h : Sh s all) (n : Int) (h0 : -9223372036854775808 ≤ n) (h1 : n ≤ 9223372036854775807) : Sh (putR s n) (all ++ [n]) := by
  obtain ⟨LS, ns, e1, e2, hne, hok, hall⟩ := h.ex
  have hw := wordN_length h0 h1
  have hwl : (wordN n).length = 1 + (itoa n).length := by simp [wordN]; omega
  unfold putR
  by_cases hc : s.2.length + (wordN n).length > 78
  · rw [if_pos hc]
    refine ⟨LS ++ [ns], [n], ?_, by simp [vL], fun _ => by simp, ?_, ?_⟩
    · rw [e1, e2, List.map_append, unl_app]
      simp [unl]
    · rw [List.map_append, okL_snoc]
      refine ⟨hok, ?_, fun _ => ?_⟩
      · show (118 :: _ : List UInt8).length ≤ 78
        have : (vL [n]).length = 1 + (wordN n).length := by simp [vL]; omega
        unfold vL at this
        omega
      · rw [show ([ns] : List (List Int)).map vL = [vL ns] from rfl, lastLen_snoc, fw_vL, ← e2]
        omega
    · rw [← hall]; simp
  · rw [if_neg hc]
    refine ⟨LS, ns ++ [n], e1, ?_, fun _ => by simp, ?_, ?_⟩
    · rw [e2, vL_snoc]
    · rw [okL_snoc] at hok ⊢
      refine ⟨hok.1, ?_, fun hk => ?_⟩
      · rw [vL_snoc, ← e2, List.length_append]
        omega
      · have h3 := hok.2.2 hk
        have hLS : LS ≠ [] := by
          intro e
          rw [e] at hk
          simp at hk
        have hn := hne hLS
        obtain ⟨a, r, rfl⟩ : ∃ a r, ns = a :: r := by
          cases ns with
          | nil => exact absurd rfl hn
          | cons a r => exact ⟨a, r, rfl⟩
        rw [fw_vL] at h3
        rw [List.cons_append, fw_vL]
        exact h3
    · rw [← hall]; simp
theorem sh_say (m : List Bool) : ∀ k, k ≤ 1048577 → Sh (sayS m k) (numsM m k)
  | 0, _ => ⟨[], [], by simp [sayS, unl], by simp [sayS, vL], fun h => absurd rfl h, by simp [okL, vL], rfl⟩
  | k + 1, h => by
    have hr := numAt_range m k (by omega)
    exact (sh_say m k (by omega)).put (P.numAt m k) hr.1 hr.2
def headLine : List UInt8 := [115, 32, 83, 65, 84, 73, 83, 70, 73, 65, 66, 76, 69]
/-- The text of an answer that says 'satisfiable'. -/
theorem says_lines (m : List Bool) (hm : m.length ≤ 1048576) : ∃ LL : List (List Int), saysT true m = unl (headLine :: LL.map vL) ∧ okL 0 0 (headLine :: LL.map vL) ∧ LL.flatten = numsM m m.length ++ [0] := by
  obtain ⟨LS, ns, e1, e2, hne, hok, hall⟩ := ((sh_say m m.length (by omega)).put 0 (by decide) (by decide)).ex
  refine ⟨LS ++ [ns], ?_, ?_, ?_⟩
  · unfold saysT
    rw [if_pos rfl, e1, e2, List.map_append]
    show headS ++ unl (LS.map vL) ++ vL ns ++ [10] = headLine ++ 10 :: unl (LS.map vL ++ [vL ns])
    rw [unl_app]
    simp [unl, headS, headLine]
  · rw [List.map_append]
    exact ⟨by decide, fun h => absurd h (by decide), hok⟩
  · rw [← hall]; simp
theorem says_reads (m : List Bool) (hm : m.length ≤ 1048576) : readA (mkB (saysT true m)) = (⟨true, true, m, true⟩, 0, 0) := by
  obtain ⟨LL, h1, _, h3⟩ := says_lines m hm
  have hn : ∀ l ∈ headLine :: LL.map vL, no10 l := by
    intro l hl
    rcases List.mem_cons.1 hl with rfl | hl
    · intro c hc; revert c; decide
    · obtain ⟨ns, _, rfl⟩ := List.mem_map.1 hl
      exact no10_vL ns
  have hl : linesA (mkB (saysT true m)).data.toList = headLine :: LL.map vL := by
    rw [mkB_list, h1, lines_unl _ hn]
  have hf : linesT (headLine :: LL.map vL) 0 ast0 = linesT (LL.map vL) 1 ⟨true, true, [], false⟩ := by
    have e : linesT (headLine :: LL.map vL) 0 ast0 = if idleB headLine then linesT (LL.map vL) 1 ast0 else if (lineA ast0 (wordsB (mkB headLine))).2 = 0 then linesT (LL.map vL) 1 (lineA ast0 (wordsB (mkB headLine))).1 else ((lineA ast0 (wordsB (mkB headLine))).1, (lineA ast0 (wordsB (mkB headLine))).2, 1) := rfl
    have hi : idleB headLine = false := by kernel_rfl
    have hla : lineA ast0 (wordsB (mkB headLine)) = (⟨true, true, [], false⟩, 0) := by kernel_rfl
    rw [e, hi, if_neg (by decide), hla, if_pos rfl]
  have ha : wordsA ⟨true, true, [], false⟩ (LL.flatten.map (fun n => mkB (itoa n))) = (⟨true, true, m, true⟩, 0) := by rw [h3]; exact wordsA_all m hm
  unfold readA
  rw [hl, hf, linesT_nums LL 1 ⟨true, true, [], false⟩ rfl rfl (by rw [ha]), ha]
  rfl
theorem uns_reads : readA (mkB unsatT) = (⟨true, false, [], false⟩, 0, 0) := by kernel_rfl
end Go.Proofs.YtejdjmcdlbcmeaaDoor.T
