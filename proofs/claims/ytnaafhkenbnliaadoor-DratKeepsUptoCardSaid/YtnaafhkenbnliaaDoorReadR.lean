/- The pure law of drat's readers: what the program's reading comes to is what the reference's Parse comes to. No conditions. drat's (*reader).take: the walk. No conditions. drat's (*reader).read: the walk (under way). No conditions. drat's (*reader).read: the walk: what is read is readF, for every text of at most 4294967280 bytes. No conditions. drat.Read: what it comes to, for every text of at most 4294967280 bytes. No conditions. -/
import Derived.Test.YtnaafhkenbnliaaDoorTextR
import Derived.Test.YtnaafhkenbnliaaDoorRx7
import Derived.Deep.RegionLaw
import Derived.Lib.AtoiAllCases
import Derived.Test.YtnaafhkenbnliaaDoorRx3
import Derived.Test.YtnaafhkenbnliaaDoorRx4
set_option linter.unusedVariables false
set_option linter.unusedSimpArgs false
namespace Go.Proofs.YtnaafhkenbnliaaDoor.R
open Go.RowKit Go.Lib Go.Proofs.YtnaafhkenbnliaaDoorW.PrintWords Go.Proofs.YtnaafhkenbnliaaDoorW.PrintLast Go.Proofs.YtnaafhkenbnliaaDoorW.PrintMore

/-- A reader's state: the steps that are ended, is one begun, and that one. -/
structure St where
  steps : List S47
  begun : Bool
  drop : Bool
  lits : List Int
def st0 : St := ⟨[], false, false, []⟩
/-- The next word. -/
def takeF (st : St) (w : ByteArray) : Option St :=
  if w.toList = [100] ∧ st.begun = false then some ⟨st.steps, true, true, st.lits⟩
  else if w.toList = [48] then some ⟨st.steps ++ [⟨st.drop, st.lits⟩], false, false, []⟩
  else match litN w.data.toList with
    | some n => some ⟨st.steps, true, st.drop, st.lits ++ [n]⟩
    | none => none
def takesF (st : St) : List ByteArray → St × Bool
  | [] => (st, true)
  | w :: r => match takeF st w with
    | some st' => takesF st' r
    | none => (st, false)
def lineF (st : St) (l : List UInt8) : St × Bool :=
  if hasPrefix l [99] then (st, remF (mk_ l)) else takesF st (wordsB (mk_ l))
def linesF : List (List UInt8) → Nat → St → St × Nat
  | [], n, st => (st, if st.begun then n + 1 else 0)
  | l :: r, n, st => if (lineF st l).2 then linesF r (n + 1) (lineF st l).1 else ((lineF st l).1, n + 1)
def readF (s : ByteArray) : St × Nat := linesF (linesL s.size s.data.toList) 0 st0

theorem spansB_length (s : ByteArray) (d : Nat) : ∀ (pos : Nat) (st : Option Nat) (acc : List (Nat × Nat)), (spansB s d pos st acc).1.length ≤ acc.length + d := by
  induction d with
  | zero => intro pos st acc; exact Nat.le_refl _
  | succ d ih =>
    intro pos st acc
    cases hb : blankR (by_ s pos) with
    | true =>
      rw [spansB_blank hb]
      refine Nat.le_trans (ih _ _ _) ?_
      cases st <;> simp <;> omega
    | false =>
      rw [spansB_word hb]
      exact Nat.le_trans (ih _ _ _) (by omega)
theorem wordsB_length (s : ByteArray) : (wordsB s).length ≤ s.size + 1 := by
  unfold wordsB closeSpans
  have := spansB_length s s.size 0 none []
  rw [List.length_map]
  split
  · rw [List.length_append]; simp at this ⊢; omega
  · simp at this; omega
theorem wordsB_size (s : ByteArray) : ∀ w ∈ wordsB s, w.size ≤ s.size := by
  intro w hw
  unfold wordsB at hw
  obtain ⟨x, _, rfl⟩ := List.mem_map.1 hw
  simp
  omega
theorem cut_length (l : List UInt8) : (cut l [10]).1.length ≤ l.length ∧ (cut l [10]).2.1.length ≤ l.length := by
  unfold cut
  split
  · simp only [List.length_take, List.length_drop]; omega
  · simp
theorem linesL_mem (n : Nat) : ∀ (l : List UInt8), ∀ x ∈ linesL n l, x.length ≤ l.length := by
  induction n with
  | zero => intro l x hx; simp [linesL] at hx
  | succ n ih =>
    intro l x hx
    rw [linesL] at hx
    split at hx
    · cases hx
    · have hc := cut_length l
      rcases List.mem_cons.1 hx with rfl | hx
      · exact hc.1
      · exact Nat.le_trans (ih _ x hx) hc.2
theorem linesL_length (n : Nat) : ∀ (l : List UInt8), (linesL n l).length ≤ n := by
  induction n with
  | zero => intro l; simp [linesL]
  | succ n ih =>
    intro l
    rw [linesL]
    split
    · simp
    · have := ih (cut l [10]).2.1
      simp only [List.length_cons]
      omega
theorem takeF_length {st st' : St} {w : ByteArray} (h : takeF st w = some st') : st'.steps.length ≤ st.steps.length + 1 ∧ st'.lits.length ≤ st.lits.length + 1 := by
  unfold takeF at h
  split at h
  · obtain rfl := Option.some.inj h; simp
  · split at h
    · obtain rfl := Option.some.inj h; simp
    · split at h
      · obtain rfl := Option.some.inj h; simp
      · cases h
theorem takesF_length (ws : List ByteArray) : ∀ st : St, (takesF st ws).1.steps.length ≤ st.steps.length + ws.length ∧ (takesF st ws).1.lits.length ≤ st.lits.length + ws.length := by
  induction ws with
  | nil => intro st; simp [takesF]
  | cons w r ih =>
    intro st
    simp only [takesF]
    cases h : takeF st w with
    | none => simp
    | some st' =>
      have h1 := takeF_length h
      have h2 := ih st'
      simp only [List.length_cons]
      omega

/-- The reference's words of one line. -/
theorem parse_l1 (lines : List ByteArray) (t M : Nat) (ht : t < lines.length) (hlines : lines.length ≤ 1048576) (ws : List ByteArray) (hw : ∀ w ∈ ws, w.size ≤ M) (hM : M ≤ 1048576) (hwl : ws.length ≤ 1048577) (K : Nat) (hK : M + 3 ≤ K) (r : St → Option (List S47 × Int))
    (A : Nat) (hA : A ≤ 2000000000000) (hr : ∀ st : St, st.steps.length ≤ A + ws.length → st.lits.length ≤ A + ws.length → ∀ k, K < k → depotref09_Parse.l0 k st.steps lines st.begun ((t : Int) + 1) st.drop st.lits = r st) (d : Nat) :
    ∀ (k j : Nat) (st : St), j ≤ ws.length → ws.length - j = d → 2 * d + K + 1 < k → st.steps.length ≤ A + j → st.lits.length ≤ A + j →
      depotref09_Parse.l1 k st.steps lines st.begun (t : Int) ws (j : Int) st.drop st.lits = (if (takesF st (ws.drop j)).2 then r (takesF st (ws.drop j)).1 else some ((takesF st (ws.drop j)).1.steps, (t : Int) + 1)) := by
  induction d with
  | zero =>
    intro k j st h0 hd hk h1 h2
    obtain ⟨k, rfl⟩ := succ_ofr hk
    rw [depotref09_Parse.l1, if_neg (by omega), List.drop_of_length_le (by omega), w64r (by omega) (by omega)]
    simp only [takesF, if_true]
    exact hr st (by omega) (by omega) k (by omega)
  | succ d ih =>
    intro k j st h0 hd hk h1 h2
    obtain ⟨k, rfl⟩ := succ_ofr hk
    obtain ⟨k, rfl⟩ := succ_ofr (show 2 * d + K + 2 < k by omega)
    have hj : j < ws.length := by omega
    have hws := hw ws[j] (List.getElem_mem hj)
    have E1 := Aside0.mk (show wrap64 ((j : Int) + 1) = ((j + 1 : Nat) : Int) by rw [w64r (by omega) (by omega)]; omega)
    have ewj : rdOf ByteArray.empty ws (j : Int) = ws[j] := by
      unfold rdOf
      rw [Int.toNat_natCast, List.getD_eq_getElem?_getD, List.getElem?_eq_getElem hj]
      rfl
    rw [depotref09_Parse.l1, if_pos (by omega), if_pos (by omega), ewj, List.drop_eq_getElem_cons hj]
    have next : ∀ st', takeF st ws[j] = some st' → ∀ k, 2 * d + K + 1 < k → depotref09_Parse.l1 k st'.steps lines st'.begun (t : Int) ws ((j + 1 : Nat) : Int) st'.drop st'.lits = (if (takesF st (ws[j] :: ws.drop (j + 1))).2 then r (takesF st (ws[j] :: ws.drop (j + 1))).1 else some ((takesF st (ws[j] :: ws.drop (j + 1))).1.steps, (t : Int) + 1)) := by
      intro st' h k hk
      have hl := takeF_length h
      simp only [takesF, h]
      exact ih k (j + 1) st' (by omega) (by omega) hk (by omega) (by omega)
    have other : ¬ (ws[j].toList = [100] ∧ st.begun = false) → depotref09_Parse.j3 (k + 1) st.steps lines (t : Int) ws (j : Int) ws[j] false st.drop st.lits = (if (takesF st (ws[j] :: ws.drop (j + 1))).2 then r (takesF st (ws[j] :: ws.drop (j + 1))).1 else some ((takesF st (ws[j] :: ws.drop (j + 1))).1.steps, (t : Int) + 1)) := by
      intro hno
      rw [depotref09_Parse.j3, if_neg (by decide)]
      by_cases h48 : ws[j].toList = [48]
      · have ht : takeF st ws[j] = some ⟨st.steps ++ [⟨st.drop, st.lits⟩], false, false, []⟩ := by unfold takeF; rw [if_neg hno, if_pos h48]
        rw [if_pos h48, if_pos (by omega), E1.out]
        exact next _ ht k (by omega)
      · rw [if_neg h48]
        obtain ⟨hl1, hl2⟩ := literal_is ws[j] (by omega) k (by omega)
        rw [hl1]
        simp only [Option.bind_some]
        cases hn : litN ws[j].data.toList with
        | none =>
          have ht : takeF st ws[j] = none := by unfold takeF; rw [if_neg hno, if_neg h48, hn]
          simp only [Option.isSome_none, Bool.false_eq_true, if_false, takesF, ht]
          rw [w64r (by omega) (by omega)]
        | some n =>
          have ht : takeF st ws[j] = some ⟨st.steps, true, st.drop, st.lits ++ [n]⟩ := by unfold takeF; rw [if_neg hno, if_neg h48, hn]
          simp only [Option.isSome_some, if_true]
          rw [hl2 n hn]
          simp only [Option.bind_some]
          rw [if_pos (by omega), E1.out]
          exact next _ ht k (by omega)
    by_cases h100 : ws[j].toList = [100]
    · rw [if_pos h100]
      cases hb : st.begun with
      | false =>
        have ht : takeF st ws[j] = some ⟨st.steps, true, true, st.lits⟩ := by unfold takeF; rw [if_pos ⟨h100, hb⟩]
        rw [Bool.not_false, depotref09_Parse.j3, if_pos rfl, E1.out]
        exact next _ ht k (by omega)
      | true =>
        rw [Bool.not_true]
        exact other (fun h => by rw [hb] at h; cases h.2)
    · rw [if_neg h100]
      exact other (fun h => h100 h.1)

theorem prefix_iff (l : List UInt8) : hasPrefix l [99] = true ↔ l.head? = some 99 := by
  unfold hasPrefix
  cases l with
  | nil => simp
  | cons b t =>
    simp only [List.isPrefixOf, Bool.and_true, beq_iff_eq, List.head?_cons, Option.some.injEq]
    exact eq_comm
theorem mk_size (l : List UInt8) : (mk_ l).size = l.length := by unfold mk_; rfl
def bd (t : Nat) : Nat := t * 1048578
theorem bd_succ (t : Nat) : bd (t + 1) = bd t + 1048578 := Nat.succ_mul t 1048578
theorem bd_le {t : Nat} (h : t ≤ 1048576) : bd t ≤ 1999990000000 := Nat.le_trans (Nat.mul_le_mul_right _ h) (by decide)
def fu (t : Nat) : Nat := t * 4000000
theorem fu_succ (t : Nat) : fu (t + 1) = fu t + 4000000 := Nat.succ_mul t 4000000
theorem fu_le {t : Nat} (h : t ≤ 1048576) : fu t ≤ 4194304000000 := Nat.le_trans (Nat.mul_le_mul_right _ h) (by decide)
theorem parse_l0 (LL : List (List UInt8)) (hL : ∀ x ∈ LL, x.length ≤ 1048576) (hn : LL.length ≤ 1048576) (d : Nat) : ∀ (k t : Nat) (st : St), t ≤ LL.length → LL.length - t = d → fu d + 3 < k → st.steps.length ≤ bd t → st.lits.length ≤ bd t →
    depotref09_Parse.l0 k st.steps (LL.map mk_) st.begun (t : Int) st.drop st.lits = some ((linesF (LL.drop t) t st).1.steps, ((linesF (LL.drop t) t st).2 : Int)) := by
  have hml : (LL.map mk_).length = LL.length := List.length_map ..
  induction d with
  | zero =>
    intro k t st h0 hd hk h1 h2
    obtain ⟨k, rfl⟩ := succ_ofr hk
    rw [depotref09_Parse.l0, if_neg (by omega), List.drop_of_length_le (by omega)]
    simp only [linesF]
    cases hb : st.begun with
    | true =>
      rw [if_pos rfl, if_pos rfl, w64r (by omega) (by omega), hml, show LL.length = t by omega]
      rfl
    | false => rw [if_neg (by decide), if_neg (by decide)]; rfl
  | succ d ih =>
    intro k t st h0 hd hk h1 h2
    have hkk : fu (d + 1) = fu d + 4000000 := fu_succ d
    obtain ⟨k, rfl⟩ := succ_ofr hk
    obtain ⟨k, rfl⟩ := succ_ofr (show fu d + 3999000 < k by omega)
    have ht : t < LL.length := by omega
    have hx := hL LL[t] (List.getElem_mem ht)
    have htm : bd t ≤ 1999990000000 := bd_le (by omega)
    have hts : bd (t + 1) = bd t + 1048578 := bd_succ t
    have EL := Aside0.mk (show rdOf ByteArray.empty (LL.map mk_) (t : Int) = mk_ LL[t] by
      unfold rdOf
      rw [Int.toNat_natCast, List.getD_eq_getElem?_getD, List.getElem?_map, List.getElem?_eq_getElem ht]
      rfl)
    have E1 := Aside0.mk (show wrap64 ((t : Int) + 1) = ((t + 1 : Nat) : Int) by rw [w64r (by omega) (by omega)]; omega)
    have hsz := mk_size LL[t]
    have on : hasPrefix LL[t] [99] = true → depotref09_Parse.j1 (k + 1) st.steps (LL.map mk_) st.begun (t : Int) true st.drop st.lits = some ((linesF (LL[t] :: LL.drop (t + 1)) t st).1.steps, ((linesF (LL[t] :: LL.drop (t + 1)) t st).2 : Int)) := by
      intro hp
      have e : lineF st LL[t] = (st, remF (mk_ LL[t])) := by unfold lineF; rw [if_pos hp]
      rw [depotref09_Parse.j1, if_pos rfl, if_pos (by omega), if_pos (by omega), EL.out, refRemark_is _ (by omega) _ (by omega)]
      simp only [Option.bind_some, linesF, e]
      cases hr : remF (mk_ LL[t]) with
      | true =>
        rw [if_pos rfl, if_pos rfl, E1.out]
        exact ih k (t + 1) st (by omega) (by omega) (by omega) (by omega) (by omega)
      | false => rw [if_neg (by decide), if_neg (by decide), E1.out]
    have off : hasPrefix LL[t] [99] = false → depotref09_Parse.j1 (k + 1) st.steps (LL.map mk_) st.begun (t : Int) false st.drop st.lits = some ((linesF (LL[t] :: LL.drop (t + 1)) t st).1.steps, ((linesF (LL[t] :: LL.drop (t + 1)) t st).2 : Int)) := by
      intro hp
      have e : lineF st LL[t] = takesF st (wordsB (mk_ LL[t])) := by unfold lineF; rw [if_neg (by rw [hp]; decide)]
      have hwl := wordsB_length (mk_ LL[t])
      rw [depotref09_Parse.j1, if_neg (by decide), if_pos (by omega), if_pos (by omega), EL.out, words_is _ (by omega) _ (by omega)]
      simp only [Option.bind_some]
      have key := parse_l1 (LL.map mk_) t 1048576 (by omega) (by omega) (wordsB (mk_ LL[t])) (fun w hw => by have := wordsB_size _ w hw; omega) (by omega) (by omega) (fu d + 3 + 1048579) (by omega) (fun st => some ((linesF (LL.drop (t + 1)) (t + 1) st).1.steps, ((linesF (LL.drop (t + 1)) (t + 1) st).2 : Int))) (bd t) (by omega)
        (fun st' a b k hk => by
          have := ih k (t + 1) st' (by omega) (by omega) (by omega) (by omega) (by omega)
          rw [← this]
          rfl) (wordsB (mk_ LL[t])).length k 0 st (by omega) (by omega) (by omega) (by omega) (by omega)
      rw [List.drop_zero] at key
      refine key.trans ?_
      simp only [linesF, e]
      cases (takesF st (wordsB (mk_ LL[t]))).2 with
      | true => rw [if_pos rfl, if_pos rfl]
      | false => rw [if_neg (by decide), if_neg (by decide)]; rfl
    rw [depotref09_Parse.l0, if_pos (by omega), if_pos (by omega), EL.out, List.drop_eq_getElem_cons ht]
    by_cases h0' : ((mk_ LL[t]).size : Int) > 0
    · rw [if_pos h0', if_pos h0']
      obtain ⟨c, r, hcr⟩ := List.exists_cons_of_ne_nil (show LL[t] ≠ [] by intro h; have hh := congrArg List.length h; rw [List.length_nil] at hh; omega)
      have hb := bt_head (mk_ LL[t]) (c := c) (r := r) hcr
      rw [hb]
      by_cases hc : c = 99
      · have hp : hasPrefix LL[t] [99] = true := (prefix_iff _).2 (by rw [hcr, hc]; rfl)
        have : ((c.toNat : Int) == 99) = true := by rw [hc]; rfl
        rw [this]
        exact on hp
      · have hp : hasPrefix LL[t] [99] = false := by
          cases h : hasPrefix LL[t] [99] with
          | false => rfl
          | true =>
            have := (prefix_iff _).1 h
            rw [hcr] at this
            exact absurd (Option.some.inj this) hc
        have : ((c.toNat : Int) == 99) = false := by
          apply beq_eq_false_iff_ne.2
          intro e
          apply hc
          apply UInt8.toNat_inj.1
          have e99 : (99 : UInt8).toNat = 99 := rfl
          omega
        rw [this]
        exact off hp
    · rw [if_neg h0']
      refine off ?_
      have : LL[t] = [] := List.eq_nil_of_length_eq_zero (by omega)
      rw [this]
      rfl
theorem parse_is (s : ByteArray) (hs : s.size ≤ 1048576) (k : Nat) (hk : 4194304000010 < k) : depotref09_Parse.f k s = some ((readF s).1.steps, ((readF s).2 : Int)) := by
  have hsz : s.data.toList.length = s.size := by simp
  have hl := linesL_length s.size s.data.toList
  unfold depotref09_Parse.f
  rw [lines_is s (by omega) k (by omega)]
  simp only [Option.bind_some]
  have hf := fu_le (t := (linesL s.size s.data.toList).length) (by omega)
  exact parse_l0 (linesL s.size s.data.toList) (fun x hx => by have := linesL_mem _ _ x hx; omega) (by omega) (linesL s.size s.data.toList).length k 0 st0 (by omega) (by omega) (by omega) (by simp [st0]) (by simp [st0])
end Go.Proofs.YtnaafhkenbnliaaDoor.R

set_option linter.unusedVariables false
set_option linter.unusedSimpArgs false
namespace Go.Proofs.YtnaafhkenbnliaaDoor.R
open Go.RowKit Go.Lib Go.Proofs.YtnaafhkenbnliaaDoorW.PrintWords Go.Proofs.YtnaafhkenbnliaaDoorW.PrintLast Go.Proofs.YtnaafhkenbnliaaDoorW.PrintMore

/-- Every row of strings that stood in w stands in w'. -/
def K9 (w w' : World) : Prop := ∀ (k : Nat) (cs : Array Value), w.heap[k]? = some (Obj.cells cs 9 (0, 0)) → w'.heap[k]? = some (Obj.cells cs 9 (0, 0))
theorem K9.refl (w : World) : K9 w w := fun _ _ h => h
theorem K9.below {a w w' : World} (h : K9 a w) (hb : Below w.heap.size w w') : K9 a w' := fun k cs hk => (hb.block k (blk_lt (h k cs hk))).trans (h k cs hk)
theorem K9.put {a w : World} (h : K9 a w) {g : Nat} {cs : Array Value} {t : Nat} (hg : w.heap[g]? = some (.cells cs t (0, 0))) (ht : 9 ≠ t) (i : Nat) (u : Value) : K9 a (w.setCell ⟨g, i, none⟩ u) := fun k c hk =>
  (Below.heap_setCell w ⟨g, i, none⟩ u k (blk_ne (h k c hk) hg ht)).trans (h k c hk)
theorem K9.grown {a w w' : World} (h : K9 a w) {row : Option Nat} (hg : w.grownBy w' row) {t : Nat} (hty : ∀ k, row = some k → ∃ cs, w.heap[k]? = some (.cells cs t (0, 0))) (ht : 9 ≠ t) : K9 a w' := fun k c hk =>
  (hg.block k (blk_lt (h k c hk)) (fun e => by
    obtain ⟨cs, hc⟩ := hty k e.symm
    exact blk_ne (h k c hk) hc ht rfl)).trans (h k c hk)
/-- The reader's block and what hangs on it. -/
structure RdV (w0 ws : World) (g : Nat) (vs : Value) (b d : Bool) (vl : Value) (steps : List S47) (lits : List Int) (w : World) : Prop where
  blk : w.heap[g]? = some (.cells #[vs, .bool b, .bool d, vl] 64 (0, 0))
  s : Kd.S k47 47 w w0.heap.size (fun k_ => k_ ≠ g ∧ some k_ ≠ vl.ownBlock) vs steps
  l : Kd.R (Kd.int .i64) 3 w w0.heap.size (fun k_ => k_ ≠ g) vl lits
  below : Below w0.heap.size w0 w
  le : w0.heap.size ≤ g
  k9 : K9 ws w
theorem RdV.on {w0 ws w w' : World} {g : Nat} {vs vl : Value} {b d : Bool} {steps : List S47} {lits : List Int} (h : RdV w0 ws g vs b d vl steps lits w) (hb : Below w.heap.size w w') : RdV w0 ws g vs b d vl steps lits w' :=
  ⟨(hb.block g (blk_lt h.blk)).trans h.blk, Kd.S_below h.s hb, Kd.R_below h.l hb, h.below.trans (hb.mono h.below.size), h.le, h.k9.below hb⟩
theorem RdV.setBegun {w0 ws w : World} {g : Nat} {vs vl : Value} {b d : Bool} {steps : List S47} {lits : List Int} (h : RdV w0 ws g vs b d vl steps lits w) (b' : Bool) : RdV w0 ws g vs b' d vl steps lits (w.setCell ⟨g, 1, none⟩ (.bool b')) :=
  ⟨blk_put h.blk 1 _ rfl, Kd.S_far h.s (fun k hk => hk.1) _, Kd.R_far h.l (fun k hk => hk) _, h.below.setCell (p := ⟨g, 1, none⟩) h.le _, h.le, h.k9.put h.blk (by decide) _ _⟩
theorem RdV.setDrop {w0 ws w : World} {g : Nat} {vs vl : Value} {b d : Bool} {steps : List S47} {lits : List Int} (h : RdV w0 ws g vs b d vl steps lits w) (d' : Bool) : RdV w0 ws g vs b d' vl steps lits (w.setCell ⟨g, 2, none⟩ (.bool d')) :=
  ⟨blk_put h.blk 2 _ rfl, Kd.S_far h.s (fun k hk => hk.1) _, Kd.R_far h.l (fun k hk => hk) _, h.below.setCell (p := ⟨g, 2, none⟩) h.le _, h.le, h.k9.put h.blk (by decide) _ _⟩
/-- The reader is in the state st. -/
def Rd (w0 ws : World) (g : Nat) (st : St) (w : World) : Prop := ∃ vs vl, RdV w0 ws g vs st.begun st.drop vl st.steps st.lits w

/-- Literals appended. -/
theorem RdV.appended {w0 ws w w1 : World} {g : Nat} {vs vl v1 : Value} {b d : Bool} {steps : List S47} {lits : List Int} {n : Int} (h : RdV w0 ws g vs b d vl steps lits w)
    (ho : Kd.R (Kd.int .i64) 3 w1 w0.heap.size (fun k_ => k_ ≠ g) v1 (lits ++ [n])) (hb : Below w0.heap.size w0 w1) (hg : w.grownBy w1 vl.ownBlock) (hat : v1.ownBlock = vl.ownBlock ∨ ∃ b, v1.ownBlock = some b ∧ w.heap.size ≤ b) :
    RdV w0 ws g vs b d v1 steps (lits ++ [n]) (w1.setCell ⟨g, 3, none⟩ v1) := by
  have hbk := blk_grown h.blk hg (Kd.R_ne h.l h.blk (by decide))
  have hs := Kd.S_after (ok := fun k_ => k_ ≠ g) h.s hg hat
  exact ⟨blk_put hbk 3 _ rfl, Kd.S_far hs (fun k hk => hk.1) _, Kd.R_far ho (fun k hk => hk) _, hb.setCell (p := ⟨g, 3, none⟩) h.le _, h.le, (h.k9.grown hg (Kd.R_typed h.l) (by decide)).put hbk (by decide) _ _⟩

/-- A step appended, the literals' row having gone over to it. -/
theorem RdV.closed {w0 ws w w1 : World} {g : Nat} {vs vl v1 : Value} {b d : Bool} {steps ys : List S47} {lits : List Int} (h : RdV w0 ws g vs b d vl steps lits w)
    (ho : Kd.S k47 47 w1 w0.heap.size (fun k_ => k_ ≠ g) v1 ys) (hb : Below w0.heap.size w0 w1) (hg : w.grownBy w1 vs.ownBlock) :
    RdV w0 ws g v1 false false (.slice none 0 0) ys [] ((((w1.setCell ⟨g, 0, none⟩ v1).setCell ⟨g, 1, none⟩ (.bool false)).setCell ⟨g, 2, none⟩ (.bool false)).setCell ⟨g, 3, none⟩ (.slice none 0 0)) := by
  have hbk := blk_grown h.blk hg (Kd.R_ne (Kd.S_R h.s) h.blk (by decide))
  refine ⟨blk_put (blk_put (blk_put (blk_put hbk 0 _ rfl) 1 _ rfl) 2 _ rfl) 3 _ rfl, ?_, Kd.R_nil _ _ _ _ _, ((((hb.setCell (p := ⟨g, 0, none⟩) h.le _).setCell (p := ⟨g, 1, none⟩) h.le _).setCell (p := ⟨g, 2, none⟩) h.le _).setCell (p := ⟨g, 3, none⟩) h.le _), h.le, ((((h.k9.grown hg (Kd.S_typed h.s) (by decide)).put hbk (by decide) _ _).put (blk_put hbk 0 _ rfl) (by decide) _ _).put (blk_put (blk_put hbk 0 _ rfl) 1 _ rfl) (by decide) _ _).put (blk_put (blk_put (blk_put hbk 0 _ rfl) 1 _ rfl) 2 _ rfl) (by decide) _ _⟩
  exact Kd.S_mono (Kd.S_far (Kd.S_far (Kd.S_far (Kd.S_far ho (fun k hk => hk) _) (fun k hk => hk) _) (fun k hk => hk) _) (fun k hk => hk) _) (fun k hk => ⟨hk, by simp [Value.ownBlock]⟩)
theorem formed_isR (x : Int) : lits_Formed.f x = some (litOk x) := by
  unfold lits_Formed.f litOk
  by_cases h : x = 0
  · rw [if_pos h]; simp [h]
  · rw [if_neg h]
    by_cases h1 : x ≥ -1048576
    · rw [if_pos h1]; congr 1; rw [decide_eq_decide]; omega
    · rw [if_neg h1]; congr 1; symm; rw [decide_eq_false_iff_not]; omega
set_option maxHeartbeats 8000000 in
set_option maxRecDepth 100000 in
theorem take_walk (w0 ws : World) (g : Nat) (vs vl : Value) (st : St) (wd : ByteArray) (w : World) (hR : RdV w0 ws g vs st.begun st.drop vl st.steps st.lits w) (hE : Env w) (hw : wd.size ≤ 4294967296) (h1 : st.steps.length ≤ 2000000000000) (h2 : st.lits.length ≤ 2000000000000) :
    Calls Tryd.prog 37 #[.pointer (some ⟨g, 0, none⟩), .string wd] w fun e w' => (takeF st wd = none ∧ e = .returned (.bool false) ∧ Rd w0 ws g st w') ∨ (∃ st', takeF st wd = some st' ∧ e = .returned (.bool true) ∧ Rd w0 ws g st' w') := by
  have HR := Aside0.mk hR
  have HE := Aside0.mk hE
  have b0 := blk_cell hR.blk 0
  have b1 := blk_cell hR.blk 1
  have b2 := blk_cell hR.blk 2
  have b3 := blk_cell hR.blk 3
  have f0 := blk_frozen hR.blk 0
  have f1 := blk_frozen hR.blk 1
  have f2 := blk_frozen hR.blk 2
  have f3 := blk_frozen hR.blk 3
  replace b0 : w.cell? ⟨g, 0, none⟩ = some vs := b0.trans rfl
  replace b1 : w.cell? ⟨g, 1, none⟩ = some (.bool st.begun) := b1.trans rfl
  replace b2 : w.cell? ⟨g, 2, none⟩ = some (.bool st.drop) := b2.trans rfl
  replace b3 : w.cell? ⟨g, 3, none⟩ = some vl := b3.trans rfl
  clear hR hE
  by_cases hd : wd.toList = [100] ∧ st.begun = false
  · have ht : takeF st wd = some ⟨st.steps, true, true, st.lits⟩ := by unfold takeF; rw [if_pos hd]
    have c1 : (wd.toList == ([100] : List UInt8)) = true := beq_iff_eq.mpr hd.1
    rw [hd.2] at b1
    clear hd
    go_enter Tryd.func37, Tryd.ntmps37
    go_wp2
    go_ret
    exact Or.inr ⟨_, ht, rfl, vs, vl, (HR.out.setBegun true).setDrop true⟩
  · have h100 : (wd.toList == ([100] : List UInt8)) = true → st.begun = true := fun h => by
      cases hb : st.begun with
      | true => rfl
      | false => exact absurd ⟨beq_iff_eq.mp h, hb⟩ hd
    by_cases h48 : wd.toList = [48]
    · have ht : takeF st wd = some ⟨st.steps ++ [⟨st.drop, st.lits⟩], false, false, []⟩ := by unfold takeF; rw [if_neg hd, if_pos h48]
      have c1 : (wd.toList == ([100] : List UInt8)) = false := by rw [h48]; rfl
      have c48 : (wd.toList == ([48] : List UInt8)) = true := beq_iff_eq.mpr h48
      clear h100 hd h48
      obtain ⟨Al, cl, el⟩ := Kd.R_slice HR.out.l
      subst el
      have hap := Kd.R_apart' HR.out.l (Kd.S_typed HR.out.s) (by decide)
      have HA := Aside0.mk hap
      clear hap
      have DR := Aside0.mk (HR.out.on (Below.refl _ _).drew)
      have za0 : ∀ o : Obj, (w.alloc o).cell? ⟨g, 0, none⟩ = some vs := fun o => (blk_cell (blk_alloc HR.out.blk o) 0).trans rfl
      go_enter Tryd.func37, Tryd.ntmps37
      go_wp2_with fail
      go_region_law (first | (rw [show ∀ o : Obj, (w.alloc o).drew = w.drew.alloc o from fun _ => rfl]; refine Kd.S_append_step k47 (w0 := w0) w0.heap.size ?hw (.tmp 29) (.tmp 34) 22 47 (.agg #[.bool false, .slice none 0 0]) 32 ?ho Tryd.underlying22 info47 rfl (by decide) (by omega) vs st.steps (⟨st.drop, st.lits⟩ : S47) [.bool st.drop, .slice Al st.lits.length cl] (fun k_ => k_ ≠ g) (fun k_ => some k_ = (Value.slice Al st.lits.length cl).ownBlock) ?hs ?hx ?aP (fun k_ hk_ => HA.out.1 k_ hk_.symm) ?aF ?aO ?aB ?aS ?aL ?_; (case hw => first | rfl | simp [Region.wanted]); (case ho => rfl); (case hs => first | rfl | simp [Act.eval, Act.put]); (case hx => first | rfl | simp [Act.eval, Act.put]); (case aP => exact k47_mkM _ _ _ (⟨st.drop, st.lits⟩ : S47) (Kd.R_tight rfl DR.out.l)); (case aF => exact (fun k hk e => by subst e; have := blk_lt DR.out.blk; omega)); (case aO => exact Kd.S_mono DR.out.s (fun k hk => ⟨hk.1, fun e => hk.2 e⟩)); (case aB => exact DR.out.below); (case aS => exact DR.out.below.size); (case aL => omega); intro v1 w5 ho hb hg hat; obtain ⟨Ao, co, eo⟩ := Kd.R_slice (Kd.S_R ho); subst eo; have hbk := blk_grown DR.out.blk hg (Kd.R_ne (Kd.S_R DR.out.s) DR.out.blk (by decide)); have x0 : w5.cell? ⟨g, 0, none⟩ = some vs := (blk_cell hbk 0).trans rfl; have x1 : w5.cell? ⟨g, 1, none⟩ = some (.bool st.begun) := (blk_cell hbk 1).trans rfl; have x2 : w5.cell? ⟨g, 2, none⟩ = some (.bool st.drop) := (blk_cell hbk 2).trans rfl; have x3 : w5.cell? ⟨g, 3, none⟩ = some (.slice Al st.lits.length cl) := (blk_cell hbk 3).trans rfl; have y0 := blk_frozen hbk 0; have y1 := blk_frozen hbk 1; have y2 := blk_frozen hbk 2; have y3 := blk_frozen hbk 3; have HR5 := Aside0.mk (RdV.closed DR.out ho hb hg); clear ho hb hg hat hbk))
      all_goals (go_wp2_with fail; go_ret; have HR6 := HR5.out; rw [show (st.steps ++ [(⟨st.drop, st.lits⟩ : S47)]).length = st.steps.length + 1 by simp] at HR6; exact Or.inr ⟨_, ht, rfl, _, _, HR6⟩)
    · have c48 : (wd.toList == ([48] : List UInt8)) = false := beq_eq_false_iff_ne.mpr h48
      by_cases hh : wd.toList = [100]
      · have c1 : (wd.toList == ([100] : List UInt8)) = true := beq_iff_eq.mpr hh
        rw [h100 c1] at b1
        clear hh
        go_enter Tryd.func37, Tryd.ntmps37
        go_wp2_with fail
        refine (atoi_any wd (by omega) _ (HE.out.below (by repeat (first | exact Below.refl _ _ | apply Below.drew)))).mono ?_
        rintro e w1 ⟨⟨n, ha, rfl⟩ | ⟨hno, v, N, rfl⟩, hb⟩
        · have HR1 := Aside0.mk (HR.out.on hb)
          have HE1 := Aside0.mk (HE.out.below hb)
          clear hb
          go_wp2_with fail
          have hbd := atoiAll_bounds ha
          refine (strconv_Itoa_21.calls n _ _ HE1.out (by unfold strconv_Itoa_21.f; exact if_pos hbd)).mono ?_
          rintro e w2 ⟨rfl, hb2⟩
          have HR2 := Aside0.mk (HR1.out.on hb2)
          clear hb2
          by_cases heq : Lib.itoa n = wd.data.toList
          · have e1 : ((⟨(Lib.itoa n).toArray⟩ : ByteArray).toList == wd.toList) = true := beq_iff_eq.mpr (by rw [ByteArray.toList_eq, ByteArray.toList_eq]; exact heq)
            have e2 : ((⟨(Lib.itoa n).toArray⟩ : ByteArray).toList != wd.toList) = false := by rw [bne, e1]; rfl
            have hlit := litN_of ha heq
            go_wp2_with fail
            refine (lits_Formed.calls n (litOk n) _ (formed_isR n)).mono ?_
            rintro e w3 ⟨rfl, ⟨nd, rfl⟩⟩
            have HR3 := Aside0.mk (HR2.out.on (pw_below_drewN (Below.refl _ _) nd))
            cases hok : litOk n with
            | false =>
              have ht : takeF st wd = none := by
                unfold takeF
                rw [if_neg hd, if_neg h48, hlit, hok]
                rfl
              go_wp2_with fail
              go_ret
              exact Or.inl ⟨ht, rfl, vs, vl, HR3.out⟩
            | true =>
              have ht : takeF st wd = some ⟨st.steps, true, st.drop, st.lits ++ [n]⟩ := by
                unfold takeF
                rw [if_neg hd, if_neg h48, hlit, hok]
                rfl
              have z1 : (w2.drewN nd).cell? ⟨g, 1, none⟩ = some (.bool st.begun) := (blk_cell HR3.out.blk 1).trans rfl
              have y1 := blk_frozen HR3.out.blk 1
              have z3 : (w2.drewN nd).cell? ⟨g, 3, none⟩ = some vl := (blk_cell HR3.out.blk 3).trans rfl
              have HR4 := Aside0.mk (HR3.out.setBegun true)
              go_wp2_with (first | (at_builtin; refine Kd.R_append (Kd.int .i64) (w0 := w0) w0.heap.size rfl (.tmp 71) (.tmp 73) 44 3 (.int .i64 0) 8 rfl Tryd.underlying44 info3 rfl (by decide) (by omega) vl st.lits n [.int .i64 n] (fun k_ => k_ ≠ g) (fun _ => False) rfl (by simp [Act.eval, World.setCell, World.drewN]) ?aP (fun _ hk => hk.elim) ?aF ?aO ?aB ?aS ?aL ?_; (case aP => exact rfl); (case aF => exact (fun k hk e => by subst e; have := blk_lt HR4.out.blk; omega)); (case aO => exact HR4.out.l); (case aB => exact HR4.out.below); (case aS => exact HR4.out.below.size); (case aL => omega); intro v1 w5 ho hb hg hat; obtain ⟨Ao, co, eo⟩ := Kd.R_slice ho; subst eo; have hbk := blk_grown HR4.out.blk hg (Kd.R_ne HR4.out.l HR4.out.blk (by decide)); have y3 := blk_frozen hbk 3; have x3 : w5.cell? ⟨g, 3, none⟩ = some vl := (blk_cell hbk 3).trans rfl; have HR5 := Aside0.mk (RdV.appended HR4.out ho hb hg hat); clear ho hb hg hat hbk))
              go_ret
              have HR6 := HR5.out
              rw [show (st.lits ++ [n]).length = st.lits.length + 1 by simp] at HR6
              exact Or.inr ⟨_, ht, rfl, vs, _, HR6⟩
          · have q1 : ¬ (Lib.itoa n = wd.toList) := by rw [ByteArray.toList_eq]; exact heq
            have q2 : (Lib.itoa n == wd.toList) = false := beq_eq_false_iff_ne.mpr q1
            have e1 : ((⟨(Lib.itoa n).toArray⟩ : ByteArray).toList == wd.toList) = false := beq_eq_false_iff_ne.mpr (by rw [ByteArray.toList_eq, ByteArray.toList_eq]; exact heq)
            have e2 : ((⟨(Lib.itoa n).toArray⟩ : ByteArray).toList != wd.toList) = true := by rw [bne, e1]; rfl
            have ht : takeF st wd = none := by
              unfold takeF
              rw [if_neg hd, if_neg h48]
              cases hl : litN wd.data.toList with
              | none => rfl
              | some m =>
                obtain ⟨h3, h4, _⟩ := litN_some hl
                rw [ha] at h3
                cases h3
                exact absurd h4 heq
            go_wp2_with fail
            go_ret
            exact Or.inl ⟨ht, rfl, vs, vl, HR2.out⟩
        · have HR1 := Aside0.mk (HR.out.on hb)
          clear hb
          have ht : takeF st wd = none := by
            unfold takeF
            rw [if_neg hd, if_neg h48]
            cases hl : litN wd.data.toList with
            | none => rfl
            | some n => exact absurd (litN_some hl).1 (hno n)
          go_wp2_with fail
          go_ret
          exact Or.inl ⟨ht, rfl, vs, vl, HR1.out⟩
      · have c1 : (wd.toList == ([100] : List UInt8)) = false := beq_eq_false_iff_ne.mpr hh
        clear hh
        go_enter Tryd.func37, Tryd.ntmps37
        go_wp2_with fail
        refine (atoi_any wd (by omega) _ (HE.out.below (by repeat (first | exact Below.refl _ _ | apply Below.drew)))).mono ?_
        rintro e w1 ⟨⟨n, ha, rfl⟩ | ⟨hno, v, N, rfl⟩, hb⟩
        · have HR1 := Aside0.mk (HR.out.on hb)
          have HE1 := Aside0.mk (HE.out.below hb)
          clear hb
          go_wp2_with fail
          have hbd := atoiAll_bounds ha
          refine (strconv_Itoa_21.calls n _ _ HE1.out (by unfold strconv_Itoa_21.f; exact if_pos hbd)).mono ?_
          rintro e w2 ⟨rfl, hb2⟩
          have HR2 := Aside0.mk (HR1.out.on hb2)
          clear hb2
          by_cases heq : Lib.itoa n = wd.data.toList
          · have e1 : ((⟨(Lib.itoa n).toArray⟩ : ByteArray).toList == wd.toList) = true := beq_iff_eq.mpr (by rw [ByteArray.toList_eq, ByteArray.toList_eq]; exact heq)
            have e2 : ((⟨(Lib.itoa n).toArray⟩ : ByteArray).toList != wd.toList) = false := by rw [bne, e1]; rfl
            have hlit := litN_of ha heq
            go_wp2_with fail
            refine (lits_Formed.calls n (litOk n) _ (formed_isR n)).mono ?_
            rintro e w3 ⟨rfl, ⟨nd, rfl⟩⟩
            have HR3 := Aside0.mk (HR2.out.on (pw_below_drewN (Below.refl _ _) nd))
            cases hok : litOk n with
            | false =>
              have ht : takeF st wd = none := by
                unfold takeF
                rw [if_neg hd, if_neg h48, hlit, hok]
                rfl
              go_wp2_with fail
              go_ret
              exact Or.inl ⟨ht, rfl, vs, vl, HR3.out⟩
            | true =>
              have ht : takeF st wd = some ⟨st.steps, true, st.drop, st.lits ++ [n]⟩ := by
                unfold takeF
                rw [if_neg hd, if_neg h48, hlit, hok]
                rfl
              have z1 : (w2.drewN nd).cell? ⟨g, 1, none⟩ = some (.bool st.begun) := (blk_cell HR3.out.blk 1).trans rfl
              have y1 := blk_frozen HR3.out.blk 1
              have z3 : (w2.drewN nd).cell? ⟨g, 3, none⟩ = some vl := (blk_cell HR3.out.blk 3).trans rfl
              have HR4 := Aside0.mk (HR3.out.setBegun true)
              go_wp2_with (first | (at_builtin; refine Kd.R_append (Kd.int .i64) (w0 := w0) w0.heap.size rfl (.tmp 71) (.tmp 73) 44 3 (.int .i64 0) 8 rfl Tryd.underlying44 info3 rfl (by decide) (by omega) vl st.lits n [.int .i64 n] (fun k_ => k_ ≠ g) (fun _ => False) rfl (by simp [Act.eval, World.setCell, World.drewN]) ?aP (fun _ hk => hk.elim) ?aF ?aO ?aB ?aS ?aL ?_; (case aP => exact rfl); (case aF => exact (fun k hk e => by subst e; have := blk_lt HR4.out.blk; omega)); (case aO => exact HR4.out.l); (case aB => exact HR4.out.below); (case aS => exact HR4.out.below.size); (case aL => omega); intro v1 w5 ho hb hg hat; obtain ⟨Ao, co, eo⟩ := Kd.R_slice ho; subst eo; have hbk := blk_grown HR4.out.blk hg (Kd.R_ne HR4.out.l HR4.out.blk (by decide)); have y3 := blk_frozen hbk 3; have x3 : w5.cell? ⟨g, 3, none⟩ = some vl := (blk_cell hbk 3).trans rfl; have HR5 := Aside0.mk (RdV.appended HR4.out ho hb hg hat); clear ho hb hg hat hbk))
              go_ret
              have HR6 := HR5.out
              rw [show (st.lits ++ [n]).length = st.lits.length + 1 by simp] at HR6
              exact Or.inr ⟨_, ht, rfl, vs, _, HR6⟩
          · have q1 : ¬ (Lib.itoa n = wd.toList) := by rw [ByteArray.toList_eq]; exact heq
            have q2 : (Lib.itoa n == wd.toList) = false := beq_eq_false_iff_ne.mpr q1
            have e1 : ((⟨(Lib.itoa n).toArray⟩ : ByteArray).toList == wd.toList) = false := beq_eq_false_iff_ne.mpr (by rw [ByteArray.toList_eq, ByteArray.toList_eq]; exact heq)
            have e2 : ((⟨(Lib.itoa n).toArray⟩ : ByteArray).toList != wd.toList) = true := by rw [bne, e1]; rfl
            have ht : takeF st wd = none := by
              unfold takeF
              rw [if_neg hd, if_neg h48]
              cases hl : litN wd.data.toList with
              | none => rfl
              | some m =>
                obtain ⟨h3, h4, _⟩ := litN_some hl
                rw [ha] at h3
                cases h3
                exact absurd h4 heq
            go_wp2_with fail
            go_ret
            exact Or.inl ⟨ht, rfl, vs, vl, HR2.out⟩
        · have HR1 := Aside0.mk (HR.out.on hb)
          clear hb
          have ht : takeF st wd = none := by
            unfold takeF
            rw [if_neg hd, if_neg h48]
            cases hl : litN wd.data.toList with
            | none => rfl
            | some n => exact absurd (litN_some hl).1 (hno n)
          go_wp2_with fail
          go_ret
          exact Or.inl ⟨ht, rfl, vs, vl, HR1.out⟩
end Go.Proofs.YtnaafhkenbnliaaDoor.R

set_option linter.unusedVariables false
set_option linter.unusedSimpArgs false
namespace Go.Proofs.YtnaafhkenbnliaaDoor.R
open Go.RowKit Go.Lib Go.Proofs.YtnaafhkenbnliaaDoorW.PrintWords Go.Proofs.YtnaafhkenbnliaaDoorW.PrintLast Go.Proofs.YtnaafhkenbnliaaDoorW.PrintMore

/-- What is left to read, and where it ends. -/
def restF (st : St) (at_ : Nat) (l : List UInt8) : St × Nat := linesF (linesL l.length l) at_ st
theorem linesL_more (n : Nat) : ∀ (m : Nat) (l : List UInt8), l.length ≤ n → l.length ≤ m → linesL n l = linesL m l := by
  induction n with
  | zero =>
    intro m l h _
    have : l = [] := List.eq_nil_of_length_eq_zero (by omega)
    rw [this, linesL_nil, linesL_nil]
  | succ n ih =>
    intro m l h1 h2
    by_cases hl : l = []
    · rw [hl, linesL_nil, linesL_nil]
    · have hpos := List.length_pos_iff.2 hl
      obtain ⟨m, rfl⟩ : ∃ q, m = q + 1 := ⟨m - 1, by omega⟩
      have hc : (cut l [10]).2.1.length < l.length := by
        unfold cut
        split
        · simp only [List.length_drop, List.length_cons, List.length_nil]; omega
        · simpa using hpos
      rw [linesL, linesL, if_neg hl, if_neg hl, ih m _ (by omega) (by omega)]
theorem restF_nil (st : St) (n : Nat) : restF st n [] = (st, if st.begun then n + 1 else 0) := rfl
theorem restF_cons (st : St) (n : Nat) (l : List UInt8) (hl : l ≠ []) : restF st n l = (if (lineF st (cut l [10]).1).2 then restF (lineF st (cut l [10]).1).1 (n + 1) (cut l [10]).2.1 else ((lineF st (cut l [10]).1).1, n + 1)) := by
  have hpos := List.length_pos_iff.2 hl
  have hc : (cut l [10]).2.1.length < l.length := by
    unfold cut
    split
    · simp only [List.length_drop, List.length_cons, List.length_nil]; omega
    · simpa using hpos
  unfold restF
  obtain ⟨q, hq⟩ : ∃ q, l.length = q + 1 := ⟨l.length - 1, by omega⟩
  rw [hq, linesL, if_neg hl, linesF, linesL_more q (cut l [10]).2.1.length _ (by omega) (Nat.le_refl _)]
end Go.Proofs.YtnaafhkenbnliaaDoor.R

set_option linter.unusedVariables false
set_option linter.unusedSimpArgs false
namespace Go.Proofs.YtnaafhkenbnliaaDoor.R
open Go.RowKit Go.Lib Go.Proofs.YtnaafhkenbnliaaDoorW.PrintWords Go.Proofs.YtnaafhkenbnliaaDoorW.PrintLast Go.Proofs.YtnaafhkenbnliaaDoorW.PrintMore

def strOf (v : Value) : Nat := match v with | .string b => b.size | _ => 0
theorem blank_pays (w : World) : PredAt Tryd.prog 42 #[] (fun r : Nat => Value.int .i32 (r : Int)) blankR w := fun W x _ => blank_walk x W
/-- The reader's state, whatever the frame over rows of strings. -/
def RdE (w0 : World) (g : Nat) (st : St) (w : World) : Prop := ∃ ws, Rd w0 ws g st w
theorem RdE.on {w0 w w' : World} {g : Nat} {st : St} (h : RdE w0 g st w) (hb : Below w.heap.size w w') : RdE w0 g st w' := by
  obtain ⟨ws, vs, vl, h⟩ := h
  exact ⟨ws, vs, vl, h.on hb⟩
theorem RdE.base {w0 w : World} {g : Nat} {st : St} (h : RdE w0 g st w) : Rd w0 w g st w := by
  obtain ⟨ws, vs, vl, h⟩ := h
  exact ⟨vs, vl, h.blk, h.s, h.l, h.below, h.le, K9.refl w⟩
theorem takesF_drop (ws : List ByteArray) (st : St) (j : Nat) (hj : j < ws.length) : takesF st (ws.drop j) = match takeF st ws[j] with
    | some st' => takesF st' (ws.drop (j + 1))
    | none => (st, false) := by
  first
    | (rw [List.drop_eq_getElem_cons hj, takesF]; done)
    | (rw [List.drop_eq_getElem_cons hj, takesF]; cases takeF st ws[j] <;> rfl)
theorem RdE.env {w0 w : World} {g : Nat} {st : St} (h : RdE w0 g st w) (hE : Env w0) : Env w := by
  obtain ⟨ws, vs, vl, h⟩ := h
  exact hE.below h.below
theorem words_row {w w' : World} {base A : Nat} {ws : List ByteArray} {n c : Nat} (h : w.ownsRow base 9 1 (.slice (some ⟨A, 0, none⟩) n c) n (ws.map Value.string)) (hk : K9 w w') (j : Nat) (hj : j < ws.length) : w'.cell? ⟨A, j, none⟩ = some (.string ws[j]) := by
  have h1 := h.cellAt j (by have := h.1; rw [List.length_map] at this; omega)
  rcases h.2 with ⟨h', _⟩ | ⟨g', cap', cur, h', _, hg, _⟩
  · simp at h'
  · simp only [Value.slice.injEq, Option.some.injEq, Addr.mk.injEq, and_true, true_and] at h'
    obtain ⟨rfl, rfl⟩ := h'
    have h2 := hk _ _ hg
    rw [Lib.cell_of_heap h2]
    rw [Lib.cell_of_heap hg] at h1
    rw [h1]
    simp [hj]

set_option maxHeartbeats 8000000 in
set_option maxRecDepth 100000 in
theorem read_walk (w0 : World) (g : Nat) (s : ByteArray) (w : World) (hR : RdE w0 g st0 w) (hE : Env w0) (hs : s.size ≤ 4294967280) :
    Calls Tryd.prog 27 #[.pointer (some ⟨g, 0, none⟩), .string s] w fun e w' => e = .returned (.int .i64 ((readF s).2 : Nat)) ∧ RdE w0 g (readF s).1 w' := by
  have HR := Aside0.mk hR
  have HE := Aside0.mk hE
  have HF := Aside0.mk (show restF st0 0 s.data.toList = readF s by unfold restF readF; simp)
  clear hR hE
  have hmf : ∀ (fn : Fn) (first cap : Array Value) (w : World), (Instr.makeFunc fn first cap).run Tryd.prog w = .ok (.func fn first cap) w := fun _ _ _ _ => rfl
  go_enter Tryd.func27, Tryd.ntmps27
  go_wp2_with fail
  go_loopw [1, 6] (fun sv av w' => ∃ (l : List UInt8) (n : Nat) (st : St), sv = .string ⟨l.toArray⟩ ∧ av = .int .i64 n ∧ n + l.length ≤ s.size ∧ Aside0 (restF st n l = readF s) ∧ Aside0 (st.steps.length + 2 * l.length ≤ 2 * s.size ∧ st.lits.length + 2 * l.length ≤ 2 * s.size) ∧ Aside0 (RdE w0 g st w')) (fun sv _ _ => strOf sv)
  case atStart => exact ⟨s.data.toList, 0, st0, rfl, rfl, by simp, HF, ⟨by simp [st0], by simp [st0]⟩, HR⟩
  case round =>
    obtain ⟨l, n, st, rfl, rfl, hnl, hF, hB, hW⟩ := hrel
    by_cases hl : l = []
    · subst hl
      obtain ⟨vs, vl, hR⟩ := hW.out.base
      have b1 : wr.cell? ⟨g, 1, none⟩ = some (.bool st.begun) := (blk_cell hR.blk 1).trans rfl
      have hf := hF.out
      rw [restF_nil] at hf
      cases hb : st.begun with
      | true =>
        rw [hb] at b1 hf
        rw [if_pos rfl] at hf
        have HD := Aside0.mk hW.out
        clear hR
        go_wp2_with fail
        go_ret
        rw [← hf]
        exact ⟨rfl, HD.out⟩
      | false =>
        rw [hb] at b1 hf
        rw [if_neg (by decide)] at hf
        have HD := Aside0.mk hW.out
        clear hR
        go_wp2_with fail
        go_ret
        rw [← hf]
        exact ⟨rfl, HD.out⟩
    · obtain ⟨a, r, q, hc⟩ : ∃ a r q, cut l [10] = (a, r, q) := ⟨_, _, _, rfl⟩
      obtain ⟨m, hm⟩ := (hW.out.env HE.out).max
      have hcl := cut_length l
      rw [hc] at hcl
      have hpos := List.length_pos_iff.2 hl
      have hrl : a.length + r.length ≤ l.length ∧ r.length < l.length := by
        have h2 := congrArg (fun x : List UInt8 × List UInt8 × Bool => x.2.1.length) hc
        have h3 := congrArg (fun x : List UInt8 × List UInt8 × Bool => x.1.length) hc
        simp only at h2 h3
        rw [← h2, ← h3]
        unfold cut
        split
        · simp only [List.length_drop, List.length_take, List.length_cons, List.length_nil]; omega
        · simp only [List.length_nil]; omega
      have hf := hF.out
      rw [restF_cons st n l hl, hc] at hf
      simp only at hf
      have CUT := Aside0.mk (show ∀ W : World, W.cell? ⟨1, 0, none⟩ = some (.int .i64 m) → Calls Tryd.prog 38 #[.string ⟨l.toArray⟩, .string ⟨#[10]⟩] W fun e w' => e = .returned (.tuple #[.string ⟨a.toArray⟩, .string ⟨r.toArray⟩, .bool q]) ∧ ∃ n, w' = W.drewN n from fun W hW => by
        have := Tryd.strings_Cut ⟨l.toArray⟩ ⟨#[10]⟩ m W (by show l.length < _; omega) hW
        simpa [hc] using this)
      have FF := Aside0.mk hf
      have HC := Aside0.mk hc
      clear hf hc
      have k1 : (l == []) = false := beq_eq_false_iff_ne.mpr hl
      have k2 : (l != []) = true := bne_iff_ne.mpr hl
      have k3 : ((⟨l.toArray⟩ : ByteArray).toList == ([] : List UInt8)) = false := beq_eq_false_iff_ne.mpr (by rw [ByteArray.toList_eq]; exact hl)
      have k4 : ((⟨l.toArray⟩ : ByteArray).toList != ([] : List UInt8)) = true := by rw [bne, k3]; rfl
      go_wp2_with fail
      refine (CUT.out _ hm).mono ?_
      rintro e w2 ⟨rfl, nd, rfl⟩
      go_wp2_with fail
      refine (Tryd.strings_HasPrefix ⟨a.toArray⟩ ⟨#[99]⟩ _).mono ?_
      rintro e w3 ⟨rfl, rfl⟩
      have hW2 := Aside0.mk (hW.out.on (pw_below_drewN (Below.refl _ _) nd))
      cases hp : hasPrefix a [99] with
      | true =>
        have hline : lineF st a = (st, remF (mk_ a)) := by unfold lineF; rw [if_pos hp]
        have hf := FF.out
        rw [hline] at hf
        simp only at hf
        go_wp2_with fail
        refine (remark_walk ⟨a.toArray⟩ _ (by show a.length ≤ _; omega)).mono ?_
        rintro e w4 ⟨rfl, hb4⟩
        have hW4 := Aside0.mk (hW2.out.on hb4)
        clear hb4
        cases hrm : remF (mk_ a) with
        | true =>
          rw [hrm, if_pos rfl] at hf
          have HFF := Aside0.mk hf
          have hrm' : remF ⟨a.toArray⟩ = true := hrm
          clear hf
          go_wp2_with fail
          go_roundw
          case rel => exact ⟨r, n + 1, st, rfl, by go_num, by omega, HFF, ⟨by have := hB.out.1; omega, by have := hB.out.2; omega⟩, hW4⟩
          case measure => show r.length < l.length; omega
        | false =>
          rw [hrm, if_neg (by decide)] at hf
          have hrm' : remF ⟨a.toArray⟩ = false := hrm
          have HFF := Aside0.mk hf
          clear hf
          go_wp2_with fail
          go_ret
          rw [← HFF.out]
          exact ⟨rfl, hW4.out⟩
      | false =>
        have hline : lineF st a = takesF st (wordsB (mk_ a)) := by unfold lineF; rw [if_neg (by rw [hp]; decide)]
        have hf := FF.out
        rw [hline] at hf
        obtain ⟨ws, hws⟩ : ∃ ws, wordsB (mk_ a) = ws := ⟨_, rfl⟩
        have hwl := wordsB_length (mk_ a)
        have hwz := wordsB_size (mk_ a)
        have hma : (mk_ a).size = a.length := rfl
        rw [hws] at hf hwl hwz
        have FLD := Tryd.strings_FieldsFunc 42 #[] (fun args w => rfl) blankR ⟨a.toArray⟩ (wr.drewN nd) (by show a.length ≤ _; omega) (blank_pays _)
        rw [goFields_eq, show wordsB (⟨a.toArray⟩ : ByteArray) = ws from hws] at FLD
        have HFF := Aside0.mk hf
        have HWZ := Aside0.mk hwz
        have HWS := Aside0.mk hws
        have HFLD := Aside0.mk FLD
        clear hf hwz hws FLD
        go_wp2_with fail
        refine HFLD.out.mono ?_
        rintro e w5 ⟨A, rfl, hA, hrow, hb5⟩
        have HROW := Aside0.mk hrow
        have HR5 := Aside0.mk (hW2.out.on hb5).base
        clear hrow hA hb5
        go_wp2_with fail
        go_loopw [34] (fun jv w' => ∃ (j : Nat) (st' : St), jv = .int .i64 j ∧ j ≤ ws.length ∧ Aside0 (takesF st' (ws.drop j) = takesF st ws) ∧ Aside0 (st'.steps.length ≤ st.steps.length + j ∧ st'.lits.length ≤ st.lits.length + j) ∧ Aside0 (Rd w0 w5 g st' w')) (fun jv _ => ws.length - (intOf jv).toNat)
        case atStart => exact ⟨0, st, rfl, Nat.zero_le _, ⟨rfl⟩, ⟨by omega, by omega⟩, HR5⟩
        case round =>
          rename_i wq
          obtain ⟨j, st', rfl, hj, hT, hB2, hR2⟩ := hrel
          by_cases hlt : j < ws.length
          · obtain ⟨vs, vl, hV⟩ := hR2.out
            have hx := words_row HROW.out hV.k9 j hlt
            have hE2 := HE.out.below hV.below
            have hsz := HWZ.out ws[j] (List.getElem_mem hlt)
            have HV := Aside0.mk hV
            have HE2 := Aside0.mk hE2
            have b1 := hB.out
            have b2 := hB2.out
            have ht0 := takesF_drop ws st' j hlt
            have HT0 := Aside0.mk ht0
            clear hV hE2 ht0
            go_wp2_with fail
            refine (take_walk w0 w5 g vs vl st' ws[j] _ HV.out HE2.out (by omega) (by omega) (by omega)).mono ?_
            rintro e w6 (⟨ht, rfl, hR6⟩ | ⟨st'', ht, rfl, hR6⟩)
            · have htk := hT.out
              rw [HT0.out, ht] at htk
              simp only at htk
              have hf := HFF.out
              rw [← htk] at hf
              simp only [Bool.false_eq_true, if_false] at hf
              have HF2 := Aside0.mk hf
              have HR6 := Aside0.mk hR6
              clear ht htk hf hR6
              go_wp2_with fail
              go_ret
              rw [← HF2.out]
              exact ⟨rfl, _, HR6.out⟩
            · have htk := hT.out
              rw [HT0.out, ht] at htk
              simp only at htk
              have hl2 := takeF_length ht
              have HTK := Aside0.mk htk
              have HR6 := Aside0.mk hR6
              clear ht htk hR6
              go_wp2_with fail
              go_roundw
              case rel => exact ⟨j + 1, st'', by go_num, by omega, HTK, ⟨by omega, by omega⟩, HR6⟩
              case measure => simp [intOf]; omega
          · obtain rfl : j = ws.length := by omega
            have htk := hT.out
            rw [List.drop_length, takesF] at htk
            have hf := HFF.out
            rw [← htk] at hf
            simp only [if_true] at hf
            have HF2 := Aside0.mk hf
            have b1 := hB.out
            have b2 := hB2.out
            clear htk hf
            go_wp2_with fail
            go_roundw
            case rel => exact ⟨r, n + 1, st', rfl, by go_num, by omega, HF2, ⟨by omega, by omega⟩, ⟨_, hR2.out⟩⟩
            case measure => show r.length < l.length; omega
end Go.Proofs.YtnaafhkenbnliaaDoor.R

set_option linter.unusedVariables false
set_option linter.unusedSimpArgs false
namespace Go.Proofs.YtnaafhkenbnliaaDoor.R
open Go.RowKit Go.Lib Go.Proofs.YtnaafhkenbnliaaDoorW.PrintWords Go.Proofs.YtnaafhkenbnliaaDoorW.PrintLast Go.Proofs.YtnaafhkenbnliaaDoorW.PrintMore

/-- A new reader. -/
theorem rd_new (w : World) : RdE w w.heap.size st0 (w.alloc (.cells #[.slice none 0 0, .bool false, .bool false, .slice none 0 0] 64)) :=
  ⟨_, _, _, heap_alloc_new w _, Kd.S_nil _ _ _ _ _, Kd.R_nil _ _ _ _ _, (Below.refl _ w).alloc (Nat.le_refl _) _, Nat.le_refl _, K9.refl _⟩
/-- What drat.Read comes to. -/
def drat_Read.f (s : ByteArray) : Option (List S47 × Int × Int) := if s.size ≤ 4294967280 then (if (readF s).2 = 0 then some ((readF s).1.steps, 0, 0) else some ([], 90, ((readF s).2 : Nat))) else none
set_option maxHeartbeats 8000000 in
set_option maxRecDepth 100000 in
theorem drat_Read.calls (a0 : ByteArray) (r1 : List S47) (r2 r3 : Int) (w : World) (hE : Env w) (h : drat_Read.f a0 = some (r1, r2, r3)) :
    Calls Tryd.prog 10 #[.string a0] w fun e w' => ∃ v0_ : Value, e = .returned (.tuple #[v0_, .int .i64 r2, .int .i64 r3]) ∧ Kd.S k47 47 w' w.heap.size (fun _ => True) v0_ r1 ∧ Below w.heap.size w w' := by
  unfold drat_Read.f at h
  by_cases hs : a0.size ≤ 4294967280
  · rw [if_pos hs] at h
    have HE := Aside0.mk hE
    have HW := Aside0.mk (read_walk w w.heap.size a0 _ (rd_new w) hE hs)
    clear hE
    by_cases h0 : (readF a0).2 = 0
    · rw [if_pos h0] at h
      obtain ⟨rfl, rfl, rfl⟩ : (readF a0).1.steps = r1 ∧ (0 : Int) = r2 ∧ (0 : Int) = r3 := by
        have := Option.some.inj h
        exact ⟨congrArg (·.1) this, congrArg (·.2.1) this, congrArg (·.2.2) this⟩
      have HH := Aside0.mk h0
      clear h h0
      go_enter Tryd.func10, Tryd.ntmps10
      go_wp2_with fail
      refine HW.out.mono ?_
      rintro e w1 ⟨rfl, hR⟩
      rw [HH.out]
      obtain ⟨ws, vs, vl, hV⟩ := hR
      have b0 : w1.cell? ⟨w.heap.size, 0, none⟩ = some vs := (blk_cell hV.blk 0).trans rfl
      obtain ⟨Ao, co, eo⟩ := Kd.R_slice (Kd.S_R hV.s)
      subst eo
      have HV := Aside0.mk hV
      clear hV
      go_wp2_with fail
      go_ret3
      exact ⟨_, rfl, Kd.S_mono HV.out.s (fun _ _ => trivial), HV.out.below⟩
    · rw [if_neg h0] at h
      obtain ⟨rfl, rfl, rfl⟩ : ([] : List S47) = r1 ∧ (90 : Int) = r2 ∧ (((readF a0).2 : Nat) : Int) = r3 := by
        have := Option.some.inj h
        exact ⟨congrArg (·.1) this, congrArg (·.2.1) this, congrArg (·.2.2) this⟩
      obtain ⟨m, hm⟩ : ∃ m, (readF a0).2 = m + 1 := ⟨(readF a0).2 - 1, by omega⟩
      have HM := Aside0.mk hm
      have hpos : (0 : Int) < ((readF a0).2 : Nat) := by omega
      have d1 : decide ((0 : Int) < (((readF a0).2 : Nat) : Int)) = true := decide_eq_true hpos
      have d2 : decide (0 < (readF a0).2) = true := decide_eq_true (by omega)
      clear h h0 hm
      go_enter Tryd.func10, Tryd.ntmps10
      go_wp2_with fail
      refine HW.out.mono ?_
      rintro e w1 ⟨rfl, hR⟩
      have HR := Aside0.mk hR
      clear hR
      go_wp2_with fail
      go_ret3
      obtain ⟨ws, vs, vl, hV⟩ := HR.out
      exact ⟨_, rfl, Kd.S_nil _ _ _ _ _, hV.below⟩
  · rw [if_neg hs] at h
    cases h
end Go.Proofs.YtnaafhkenbnliaaDoor.R
