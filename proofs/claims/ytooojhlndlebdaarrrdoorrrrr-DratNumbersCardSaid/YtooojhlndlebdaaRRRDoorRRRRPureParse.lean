/- The pure law of drat's readers: what the program's reading comes to is what the reference's Parse comes to. No conditions. -/
import Derived.Test.YtooojhlndlebdaaRRRDoorRRRRRemark
import Derived.Test.YtooojhlndlebdaaRRRDoorRRRRRx5
set_option linter.unusedVariables false
set_option linter.unusedSimpArgs false
namespace Go.Proofs.YtooojhlndlebdaaRRRDoorRRRR.R
open Go.RowKit Go.Lib Go.Proofs.YtooojhlndlebdaaRRRDoorRRRRW.PrintWords Go.Proofs.YtooojhlndlebdaaRRRDoorRRRRW.PrintLast Go.Proofs.YtooojhlndlebdaaRRRDoorRRRRW.PrintMore

/-- A reader's state: the steps that are ended, is one begun, and that one. -/
structure St where
  steps : List S33
  begun : Bool
  drop : Bool
  lits : List Int
def st0 : St := ⟨[], false, false, []⟩
/-- The next word. -/
def takeF (st : St) (w : ByteArray) : Option St :=
  if w.toList = [100] ∧ st.begun = false then some ⟨st.steps, true, true, st.lits⟩
  else if w.toList = [48] then some ⟨st.steps ++ [⟨st.drop, st.lits⟩], false, false, []⟩
  else match litN w.data.toList with
    | some n => some ⟨st.steps, true, st.drop, st.lits ++ [n]⟩
    | none => none
def takesF (st : St) : List ByteArray → St × Bool
  | [] => (st, true)
  | w :: r => match takeF st w with
    | some st' => takesF st' r
    | none => (st, false)
def lineF (st : St) (l : List UInt8) : St × Bool :=
  if hasPrefix l [99] then (st, remF (mk_ l)) else takesF st (wordsB (mk_ l))
def linesF : List (List UInt8) → Nat → St → St × Nat
  | [], n, st => (st, if st.begun then n + 1 else 0)
  | l :: r, n, st => if (lineF st l).2 then linesF r (n + 1) (lineF st l).1 else ((lineF st l).1, n + 1)
def readF (s : ByteArray) : St × Nat := linesF (linesL s.size s.data.toList) 0 st0

theorem spansB_length (s : ByteArray) (d : Nat) : ∀ (pos : Nat) (st : Option Nat) (acc : List (Nat × Nat)), (spansB s d pos st acc).1.length ≤ acc.length + d := by
  induction d with
  | zero => intro pos st acc; exact Nat.le_refl _
  | succ d ih =>
    intro pos st acc
    cases hb : blankR (by_ s pos) with
    | true =>
      rw [spansB_blank hb]
      refine Nat.le_trans (ih _ _ _) ?_
      cases st <;> simp <;> omega
    | false =>
      rw [spansB_word hb]
      exact Nat.le_trans (ih _ _ _) (by omega)
theorem wordsB_length (s : ByteArray) : (wordsB s).length ≤ s.size + 1 := by
  unfold wordsB closeSpans
  have := spansB_length s s.size 0 none []
  rw [List.length_map]
  split
  · rw [List.length_append]; simp at this ⊢; omega
  · simp at this; omega
theorem wordsB_size (s : ByteArray) : ∀ w ∈ wordsB s, w.size ≤ s.size := by
  intro w hw
  unfold wordsB at hw
  obtain ⟨x, _, rfl⟩ := List.mem_map.1 hw
  simp
  omega
theorem cut_length (l : List UInt8) : (cut l [10]).1.length ≤ l.length ∧ (cut l [10]).2.1.length ≤ l.length := by
  unfold cut
  split
  · simp only [List.length_take, List.length_drop]; omega
  · simp
theorem linesL_mem (n : Nat) : ∀ (l : List UInt8), ∀ x ∈ linesL n l, x.length ≤ l.length := by
  induction n with
  | zero => intro l x hx; simp [linesL] at hx
  | succ n ih =>
    intro l x hx
    rw [linesL] at hx
    split at hx
    · cases hx
    · have hc := cut_length l
      rcases List.mem_cons.1 hx with rfl | hx
      · exact hc.1
      · exact Nat.le_trans (ih _ x hx) hc.2
theorem linesL_length (n : Nat) : ∀ (l : List UInt8), (linesL n l).length ≤ n := by
  induction n with
  | zero => intro l; simp [linesL]
  | succ n ih =>
    intro l
    rw [linesL]
    split
    · simp
    · have := ih (cut l [10]).2.1
      simp only [List.length_cons]
      omega
theorem takeF_length {st st' : St} {w : ByteArray} (h : takeF st w = some st') : st'.steps.length ≤ st.steps.length + 1 ∧ st'.lits.length ≤ st.lits.length + 1 := by
  unfold takeF at h
  split at h
  · obtain rfl := Option.some.inj h; simp
  · split at h
    · obtain rfl := Option.some.inj h; simp
    · split at h
      · obtain rfl := Option.some.inj h; simp
      · cases h
theorem takesF_length (ws : List ByteArray) : ∀ st : St, (takesF st ws).1.steps.length ≤ st.steps.length + ws.length ∧ (takesF st ws).1.lits.length ≤ st.lits.length + ws.length := by
  induction ws with
  | nil => intro st; simp [takesF]
  | cons w r ih =>
    intro st
    simp only [takesF]
    cases h : takeF st w with
    | none => simp
    | some st' =>
      have h1 := takeF_length h
      have h2 := ih st'
      simp only [List.length_cons]
      omega

/-- The reference's words of one line. -/
theorem parse_l1 (lines : List ByteArray) (t M : Nat) (ht : t < lines.length) (hlines : lines.length ≤ 1048576) (ws : List ByteArray) (hw : ∀ w ∈ ws, w.size ≤ M) (hM : M ≤ 1048576) (hwl : ws.length ≤ 1048577) (K : Nat) (hK : M + 3 ≤ K) (r : St → Option (List S33 × Int))
    (A : Nat) (hA : A ≤ 2000000000000) (hr : ∀ st : St, st.steps.length ≤ A + ws.length → st.lits.length ≤ A + ws.length → ∀ k, K < k → depotref09_Parse.l0 k st.steps lines st.begun ((t : Int) + 1) st.drop st.lits = r st) (d : Nat) :
    ∀ (k j : Nat) (st : St), j ≤ ws.length → ws.length - j = d → 2 * d + K + 1 < k → st.steps.length ≤ A + j → st.lits.length ≤ A + j →
      depotref09_Parse.l1 k st.steps lines st.begun (t : Int) ws (j : Int) st.drop st.lits = (if (takesF st (ws.drop j)).2 then r (takesF st (ws.drop j)).1 else some ((takesF st (ws.drop j)).1.steps, (t : Int) + 1)) := by
  induction d with
  | zero =>
    intro k j st h0 hd hk h1 h2
    obtain ⟨k, rfl⟩ := succ_ofr hk
    rw [depotref09_Parse.l1, if_neg (by omega), List.drop_of_length_le (by omega), w64r (by omega) (by omega)]
    simp only [takesF, if_true]
    exact hr st (by omega) (by omega) k (by omega)
  | succ d ih =>
    intro k j st h0 hd hk h1 h2
    obtain ⟨k, rfl⟩ := succ_ofr hk
    obtain ⟨k, rfl⟩ := succ_ofr (show 2 * d + K + 2 < k by omega)
    have hj : j < ws.length := by omega
    have hws := hw ws[j] (List.getElem_mem hj)
    have E1 := Aside0.mk (show wrap64 ((j : Int) + 1) = ((j + 1 : Nat) : Int) by rw [w64r (by omega) (by omega)]; omega)
    have ewj : rdOf ByteArray.empty ws (j : Int) = ws[j] := by
      unfold rdOf
      rw [Int.toNat_natCast, List.getD_eq_getElem?_getD, List.getElem?_eq_getElem hj]
      rfl
    rw [depotref09_Parse.l1, if_pos (by omega), if_pos (by omega), ewj, List.drop_eq_getElem_cons hj]
    have next : ∀ st', takeF st ws[j] = some st' → ∀ k, 2 * d + K + 1 < k → depotref09_Parse.l1 k st'.steps lines st'.begun (t : Int) ws ((j + 1 : Nat) : Int) st'.drop st'.lits = (if (takesF st (ws[j] :: ws.drop (j + 1))).2 then r (takesF st (ws[j] :: ws.drop (j + 1))).1 else some ((takesF st (ws[j] :: ws.drop (j + 1))).1.steps, (t : Int) + 1)) := by
      intro st' h k hk
      have hl := takeF_length h
      simp only [takesF, h]
      exact ih k (j + 1) st' (by omega) (by omega) hk (by omega) (by omega)
    have other : ¬ (ws[j].toList = [100] ∧ st.begun = false) → depotref09_Parse.j3 (k + 1) st.steps lines (t : Int) ws (j : Int) ws[j] false st.drop st.lits = (if (takesF st (ws[j] :: ws.drop (j + 1))).2 then r (takesF st (ws[j] :: ws.drop (j + 1))).1 else some ((takesF st (ws[j] :: ws.drop (j + 1))).1.steps, (t : Int) + 1)) := by
      intro hno
      rw [depotref09_Parse.j3, if_neg (by decide)]
      by_cases h48 : ws[j].toList = [48]
      · have ht : takeF st ws[j] = some ⟨st.steps ++ [⟨st.drop, st.lits⟩], false, false, []⟩ := by unfold takeF; rw [if_neg hno, if_pos h48]
        rw [if_pos h48, if_pos (by omega), E1.out]
        exact next _ ht k (by omega)
      · rw [if_neg h48]
        obtain ⟨hl1, hl2⟩ := literal_is ws[j] (by omega) k (by omega)
        rw [hl1]
        simp only [Option.bind_some]
        cases hn : litN ws[j].data.toList with
        | none =>
          have ht : takeF st ws[j] = none := by unfold takeF; rw [if_neg hno, if_neg h48, hn]
          simp only [Option.isSome_none, Bool.false_eq_true, if_false, takesF, ht]
          rw [w64r (by omega) (by omega)]
        | some n =>
          have ht : takeF st ws[j] = some ⟨st.steps, true, st.drop, st.lits ++ [n]⟩ := by unfold takeF; rw [if_neg hno, if_neg h48, hn]
          simp only [Option.isSome_some, if_true]
          rw [hl2 n hn]
          simp only [Option.bind_some]
          rw [if_pos (by omega), E1.out]
          exact next _ ht k (by omega)
    by_cases h100 : ws[j].toList = [100]
    · rw [if_pos h100]
      cases hb : st.begun with
      | false =>
        have ht : takeF st ws[j] = some ⟨st.steps, true, true, st.lits⟩ := by unfold takeF; rw [if_pos ⟨h100, hb⟩]
        rw [Bool.not_false, depotref09_Parse.j3, if_pos rfl, E1.out]
        exact next _ ht k (by omega)
      | true =>
        rw [Bool.not_true]
        exact other (fun h => by rw [hb] at h; cases h.2)
    · rw [if_neg h100]
      exact other (fun h => h100 h.1)

theorem prefix_iff (l : List UInt8) : hasPrefix l [99] = true ↔ l.head? = some 99 := by
  unfold hasPrefix
  cases l with
  | nil => simp
  | cons b t =>
    simp only [List.isPrefixOf, Bool.and_true, beq_iff_eq, List.head?_cons, Option.some.injEq]
    exact eq_comm
theorem mk_size (l : List UInt8) : (mk_ l).size = l.length := by unfold mk_; rfl
def bd (t : Nat) : Nat := t * 1048578
theorem bd_succ (t : Nat) : bd (t + 1) = bd t + 1048578 := Nat.succ_mul t 1048578
theorem bd_le {t : Nat} (h : t ≤ 1048576) : bd t ≤ 1999990000000 := Nat.le_trans (Nat.mul_le_mul_right _ h) (by decide)
theorem bd_zero : bd 0 = 0 := Nat.zero_mul _
def fu (t : Nat) : Nat := t * 4000000
theorem fu_succ (t : Nat) : fu (t + 1) = fu t + 4000000 := Nat.succ_mul t 4000000
theorem fu_le {t : Nat} (h : t ≤ 1048576) : fu t ≤ 4194304000000 := Nat.le_trans (Nat.mul_le_mul_right _ h) (by decide)
theorem parse_l0 (LL : List (List UInt8)) (hL : ∀ x ∈ LL, x.length ≤ 1048576) (hn : LL.length ≤ 1048576) (d : Nat) : ∀ (k t : Nat) (st : St), t ≤ LL.length → LL.length - t = d → fu d + 3 < k → st.steps.length ≤ bd t → st.lits.length ≤ bd t →
    depotref09_Parse.l0 k st.steps (LL.map mk_) st.begun (t : Int) st.drop st.lits = some ((linesF (LL.drop t) t st).1.steps, ((linesF (LL.drop t) t st).2 : Int)) := by
  have hml : (LL.map mk_).length = LL.length := List.length_map ..
  induction d with
  | zero =>
    intro k t st h0 hd hk h1 h2
    obtain ⟨k, rfl⟩ := succ_ofr hk
    rw [depotref09_Parse.l0, if_neg (by omega), List.drop_of_length_le (by omega)]
    simp only [linesF]
    cases hb : st.begun with
    | true =>
      rw [if_pos rfl, if_pos rfl, w64r (by omega) (by omega), hml, show LL.length = t by omega]
      rfl
    | false => rw [if_neg (by decide), if_neg (by decide)]; rfl
  | succ d ih =>
    intro k t st h0 hd hk h1 h2
    have hkk : fu (d + 1) = fu d + 4000000 := fu_succ d
    obtain ⟨k, rfl⟩ := succ_ofr hk
    obtain ⟨k, rfl⟩ := succ_ofr (show fu d + 3999000 < k by omega)
    have ht : t < LL.length := by omega
    have hx := hL LL[t] (List.getElem_mem ht)
    have htm : bd t ≤ 1999990000000 := bd_le (by omega)
    have hts : bd (t + 1) = bd t + 1048578 := bd_succ t
    have EL := Aside0.mk (show rdOf ByteArray.empty (LL.map mk_) (t : Int) = mk_ LL[t] by
      unfold rdOf
      rw [Int.toNat_natCast, List.getD_eq_getElem?_getD, List.getElem?_map, List.getElem?_eq_getElem ht]
      rfl)
    have E1 := Aside0.mk (show wrap64 ((t : Int) + 1) = ((t + 1 : Nat) : Int) by rw [w64r (by omega) (by omega)]; omega)
    have hsz := mk_size LL[t]
    have on : hasPrefix LL[t] [99] = true → depotref09_Parse.j1 (k + 1) st.steps (LL.map mk_) st.begun (t : Int) true st.drop st.lits = some ((linesF (LL[t] :: LL.drop (t + 1)) t st).1.steps, ((linesF (LL[t] :: LL.drop (t + 1)) t st).2 : Int)) := by
      intro hp
      have e : lineF st LL[t] = (st, remF (mk_ LL[t])) := by unfold lineF; rw [if_pos hp]
      rw [depotref09_Parse.j1, if_pos rfl, if_pos (by omega), if_pos (by omega), EL.out, refRemark_is _ (by omega) _ (by omega)]
      simp only [Option.bind_some, linesF, e]
      cases hr : remF (mk_ LL[t]) with
      | true =>
        rw [if_pos rfl, if_pos rfl, E1.out]
        exact ih k (t + 1) st (by omega) (by omega) (by omega) (by omega) (by omega)
      | false => rw [if_neg (by decide), if_neg (by decide), E1.out]
    have off : hasPrefix LL[t] [99] = false → depotref09_Parse.j1 (k + 1) st.steps (LL.map mk_) st.begun (t : Int) false st.drop st.lits = some ((linesF (LL[t] :: LL.drop (t + 1)) t st).1.steps, ((linesF (LL[t] :: LL.drop (t + 1)) t st).2 : Int)) := by
      intro hp
      have e : lineF st LL[t] = takesF st (wordsB (mk_ LL[t])) := by unfold lineF; rw [if_neg (by rw [hp]; decide)]
      have hwl := wordsB_length (mk_ LL[t])
      rw [depotref09_Parse.j1, if_neg (by decide), if_pos (by omega), if_pos (by omega), EL.out, words_is _ (by omega) _ (by omega)]
      simp only [Option.bind_some]
      have key := parse_l1 (LL.map mk_) t 1048576 (by omega) (by omega) (wordsB (mk_ LL[t])) (fun w hw => by have := wordsB_size _ w hw; omega) (by omega) (by omega) (fu d + 3 + 1048579) (by omega) (fun st => some ((linesF (LL.drop (t + 1)) (t + 1) st).1.steps, ((linesF (LL.drop (t + 1)) (t + 1) st).2 : Int))) (bd t) (by omega)
        (fun st' a b k hk => by
          have := ih k (t + 1) st' (by omega) (by omega) (by omega) (by omega) (by omega)
          rw [← this]
          rfl) (wordsB (mk_ LL[t])).length k 0 st (by omega) (by omega) (by omega) (by omega) (by omega)
      rw [List.drop_zero] at key
      refine key.trans ?_
      simp only [linesF, e]
      cases (takesF st (wordsB (mk_ LL[t]))).2 with
      | true => rw [if_pos rfl, if_pos rfl]
      | false => rw [if_neg (by decide), if_neg (by decide)]; rfl
    rw [depotref09_Parse.l0, if_pos (by omega), if_pos (by omega), EL.out, List.drop_eq_getElem_cons ht]
    by_cases h0' : ((mk_ LL[t]).size : Int) > 0
    · rw [if_pos h0', if_pos h0']
      obtain ⟨c, r, hcr⟩ := List.exists_cons_of_ne_nil (show LL[t] ≠ [] by intro h; have hh := congrArg List.length h; rw [List.length_nil] at hh; omega)
      have hb := bt_head (mk_ LL[t]) (c := c) (r := r) hcr
      rw [hb]
      by_cases hc : c = 99
      · have hp : hasPrefix LL[t] [99] = true := (prefix_iff _).2 (by rw [hcr, hc]; rfl)
        have : ((c.toNat : Int) == 99) = true := by rw [hc]; rfl
        rw [this]
        exact on hp
      · have hp : hasPrefix LL[t] [99] = false := by
          cases h : hasPrefix LL[t] [99] with
          | false => rfl
          | true =>
            have := (prefix_iff _).1 h
            rw [hcr] at this
            exact absurd (Option.some.inj this) hc
        have : ((c.toNat : Int) == 99) = false := by
          apply beq_eq_false_iff_ne.2
          intro e
          apply hc
          apply UInt8.toNat_inj.1
          have e99 : (99 : UInt8).toNat = 99 := rfl
          omega
        rw [this]
        exact off hp
    · rw [if_neg h0']
      refine off ?_
      have : LL[t] = [] := List.eq_nil_of_length_eq_zero (by omega)
      rw [this]
      rfl
theorem parse_is (s : ByteArray) (hs : s.size ≤ 1048576) (k : Nat) (hk : 4194304000010 < k) : depotref09_Parse.f k s = some ((readF s).1.steps, ((readF s).2 : Int)) := by
  have hsz : s.data.toList.length = s.size := by simp
  have hl := linesL_length s.size s.data.toList
  unfold depotref09_Parse.f
  rw [lines_is s (by omega) k (by omega)]
  simp only [Option.bind_some]
  have hf := fu_le (t := (linesL s.size s.data.toList).length) (by omega)
  exact parse_l0 (linesL s.size s.data.toList) (fun x hx => by have := linesL_mem _ _ x hx; omega) (by omega) (linesL s.size s.data.toList).length k 0 st0 (by omega) (by omega) (by omega) (by simp [st0]) (by simp [st0])
end Go.Proofs.YtooojhlndlebdaaRRRDoorRRRR.R
