/- The text of ControlIdle: remarks and gaps put in; what it reads as. No conditions. -/
import Derived.Test.YtbaiglikmneicaaDoorPureBackC
set_option linter.unusedVariables false
set_option linter.unusedSimpArgs false
namespace Go.Proofs.YtbaiglikmneicaaDoor.P
open Go.RowKit Go.Lib Go.Proofs.YtbaiglikmneicaaDoorW.PrintWords Go.Proofs.YtbaiglikmneicaaDoorW.PrintLast Go.Proofs.YtbaiglikmneicaaDoorW.PrintMore
open Go.Proofs.YtbaiglikmneicaaDoor.R (mkB mkB_size mkB_data pieces linesA)
open Go.Proofs.YtbaiglikmneicaaDoor.C (fairL okC fair_at fair_nil fair_feeds)

def markR : List UInt8 := [35, 9, 73, 110, 115, 116, 97, 108, 108, 101, 100, 58, 32, 110, 111, 10]
def gapR : List UInt8 := [32, 10, 9, 9, 10]
def openR : List UInt8 := [35, 32, 111, 110, 101, 10, 32, 9, 10]
def tailR : List UInt8 := [35, 32, 101, 110, 100, 10, 10, 32, 10, 35]
/-- What is put in at a line's begin, c being its first byte. -/
def putIn (g : Int) (c : UInt8) : List UInt8 := (if Int.tmod g 2 = 0 then markR else []) ++ (if c = 10 ∧ Int.tmod g 3 = 0 then gapR else [])
def idleAt (gs : List Int) (b : Bool) (k : Nat) (c : UInt8) : List UInt8 := if h : b = true ∧ k < gs.length then putIn (gs[k]'h.2) c else []
def idleK (gs : List Int) (b : Bool) (k : Nat) : Nat := if b = true ∧ k < gs.length then k + 1 else k
def idleL (gs : List Int) : Bool → Nat → List UInt8 → List UInt8
  | _, _, [] => []
  | b, k, c :: r => idleAt gs b k c ++ c :: idleL gs (c == 10) (idleK gs b k) r
theorem idleAt_len (gs : List Int) (b : Bool) (k : Nat) (c : UInt8) : (idleAt gs b k c).length ≤ 21 := by
  unfold idleAt putIn
  split
  · rw [List.length_append]
    split <;> split <;> simp [markR, gapR]
  · simp
theorem idleL_len (gs : List Int) : ∀ (s : List UInt8) (b : Bool) (k : Nat), (idleL gs b k s).length ≤ 22 * s.length
  | [], _, _ => by simp [idleL]
  | c :: r, b, k => by
    have h1 := idleL_len gs r (c == 10) (idleK gs b k)
    have h2 := idleAt_len gs b k c
    rw [idleL, List.length_append, List.length_cons, List.length_cons]
    omega
/-- The lines that are put in. -/
def inLines (g : Int) (a : List UInt8) : List (List UInt8) := (if Int.tmod g 2 = 0 then [[35, 9, 73, 110, 115, 116, 97, 108, 108, 101, 100, 58, 32, 110, 111]] else []) ++ (if a = [] ∧ Int.tmod g 3 = 0 then [[32], [9, 9]] else [])
def idleLines (gs : List Int) : Nat → List (List UInt8) → List (List UInt8)
  | _, [] => []
  | k, a :: ls => (if h : k < gs.length then inLines (gs[k]'h) a else []) ++ a :: idleLines gs (idleK gs true k) ls
theorem idle_inner (gs : List Int) (r : List UInt8) (k : Nat) : ∀ a : List UInt8, noFeed a → idleL gs false k (a ++ 10 :: r) = a ++ 10 :: idleL gs true k r
  | [], _ => by
    rw [List.nil_append, idleL]
    have e : idleAt gs false k 10 = [] := by unfold idleAt; rw [dif_neg (by simp)]
    have e2 : idleK gs false k = k := by unfold idleK; rw [if_neg (by simp)]
    rw [e, e2]
    rfl
  | c :: a, h => by
    have hc := h c List.mem_cons_self
    have ih := idle_inner gs r k a (fun x hx => h x (List.mem_cons_of_mem _ hx))
    have e : idleAt gs false k c = [] := by unfold idleAt; rw [dif_neg (by simp)]
    have e2 : idleK gs false k = k := by unfold idleK; rw [if_neg (by simp)]
    rw [List.cons_append, idleL, e, e2, show (c == 10) = false from beq_eq_false_iff_ne.2 hc, ih]
    rfl
theorem idle_line (gs : List Int) (r : List UInt8) (k : Nat) (a : List UInt8) (h : noFeed a) : idleL gs true k (a ++ 10 :: r) = unlines (if h : k < gs.length then inLines (gs[k]'h) a else []) ++ (a ++ 10 :: idleL gs true (idleK gs true k) r) := by
  have key : ∀ c : UInt8, (c = 10 ↔ a = []) → idleAt gs true k c = unlines (if h : k < gs.length then inLines (gs[k]'h) a else []) := fun c hc => by
    unfold idleAt
    by_cases hk : k < gs.length
    · rw [dif_pos ⟨rfl, hk⟩, dif_pos hk]
      unfold putIn inLines
      rw [unlines_append]
      congr 1
      · split <;> rfl
      · by_cases ha : a = []
        · by_cases h3 : Int.tmod gs[k] 3 = 0
          · rw [if_pos ⟨hc.2 ha, h3⟩, if_pos ⟨ha, h3⟩]; rfl
          · rw [if_neg (fun x => h3 x.2), if_neg (fun x => h3 x.2)]; rfl
        · rw [if_neg (fun x => ha (hc.1 x.1)), if_neg (fun x => ha x.1)]; rfl
    · rw [dif_neg (fun x => hk x.2), dif_neg hk]; rfl
  cases a with
  | nil =>
    rw [List.nil_append, idleL, key 10 (by simp)]
    rfl
  | cons c a =>
    have hc := h c List.mem_cons_self
    have ih := idle_inner gs r (idleK gs true k) a (fun x hx => h x (List.mem_cons_of_mem _ hx))
    rw [List.cons_append, idleL, key c (by simp [hc]), show (c == 10) = false from beq_eq_false_iff_ne.2 hc, ih]
    rfl
theorem idle_unlines (gs : List Int) : ∀ (ls : List (List UInt8)) (k : Nat), (∀ a ∈ ls, noFeed a) → idleL gs true k (unlines ls) = unlines (idleLines gs k ls)
  | [], k, _ => rfl
  | a :: ls, k, h => by
    have e : unlines (a :: ls) = a ++ 10 :: unlines ls := by unfold unlines; simp
    rw [e, idle_line gs _ k a (h a List.mem_cons_self), idle_unlines gs ls _ (fun x hx => h x (List.mem_cons_of_mem _ hx)), idleLines, unlines_append]
    congr 1
    unfold unlines
    simp
theorem inLines_noFeed (g : Int) (a : List UInt8) : ∀ x ∈ inLines g a, noFeed x := by
  intro x hx
  unfold inLines at hx
  rcases List.mem_append.1 hx with hx | hx
  · split at hx
    · obtain rfl := List.mem_singleton.1 hx
      intro c hc
      revert c
      decide
    · cases hx
  · split at hx
    · rcases List.mem_cons.1 hx with rfl | hx
      · intro c hc; revert c; decide
      · obtain rfl := List.mem_singleton.1 hx
        intro c hc; revert c; decide
    · cases hx
theorem idleLines_noFeed (gs : List Int) : ∀ (ls : List (List UInt8)) (k : Nat), (∀ a ∈ ls, noFeed a) → ∀ x ∈ idleLines gs k ls, noFeed x
  | [], _, _, x, hx => by cases hx
  | a :: ls, k, h, x, hx => by
    rw [idleLines] at hx
    rcases List.mem_append.1 hx with hx | hx
    · split at hx
      · exact inLines_noFeed _ _ x hx
      · cases hx
    · rcases List.mem_cons.1 hx with rfl | hx
      · exact h x List.mem_cons_self
      · exact idleLines_noFeed gs ls _ (fun y hy => h y (List.mem_cons_of_mem _ hy)) x hx
theorem lines_last (x : List UInt8) (hx : x ≠ []) (hn : noFeed x) : ∀ ls : List (List UInt8), (∀ a ∈ ls, noFeed a) → linesA (unlines ls ++ x) = ls ++ [x]
  | [], _ => by
    show linesA x = [x]
    have hc : cut x [10] = (x, [], false) := R.cut_no x (fun j e => by
      obtain ⟨hj, h⟩ := List.getElem?_eq_some_iff.1 e
      exact hn _ (List.getElem_mem hj) h)
    rw [R.linesA_cons x hx, hc, R.linesA_nil]
  | a :: ls, h => by
    have e : unlines (a :: ls) ++ x = a ++ 10 :: (unlines ls ++ x) := by unfold unlines; simp
    rw [e, lines_cons a _ (h a List.mem_cons_self), lines_last x hx hn ls (fun y hy => h y (List.mem_cons_of_mem _ hy))]
    rfl
theorem step_mark (s : FS) (a : List UInt8) (h1 : fairL false a = true) (h2 : hasPrefix a [35] = true) : stepF s a = some s := by
  unfold stepF
  rw [if_neg (by rw [h1]; decide), if_pos h2]
theorem step_gap (s : FS) (a : List UInt8) (h1 : fairL false a = true) (h2 : hasPrefix a [35] = false) (h3 : trimC a = []) : stepF s a = some (gapF s) := by
  unfold stepF
  rw [if_neg (by rw [h1]; decide), if_neg (by rw [h2]; decide), if_pos h3]
theorem gap_gap (s : FS) : gapF (gapF s) = gapF s := by
  by_cases h : s.2 = []
  · have e : gapF s = s := by unfold gapF; rw [if_pos h]
    rw [e, e]
  · have e : gapF s = (s.1 ++ [s.2], []) := by unfold gapF; rw [if_neg h]
    rw [e]
    rfl
theorem low_fair (a : List UInt8) (h : a.all (fun c => decide (c.toNat < 128)) = true) (h2 : a.all (okC false) = true) : fairL false a = true := by
  rw [C.fair_ascii false a (fun c hc => by have := List.all_eq_true.1 h c hc; simpa using this)]
  exact h2
theorem rest_in (g : Int) (a : List UInt8) (s : FS) (r : List (List UInt8)) : restF s (inLines g a ++ a :: r) = restF s (a :: r) := by
  have hm : ∀ q, restF s ([35, 9, 73, 110, 115, 116, 97, 108, 108, 101, 100, 58, 32, 110, 111] :: q) = restF s q := fun q => by
    rw [restF, step_mark s _ (low_fair _ (by decide) (by decide)) (by decide)]
  have hg : a = [] → restF s ([32] :: [9, 9] :: a :: r) = restF s (a :: r) := fun ha => by
    subst ha
    rw [restF, step_gap s [32] (low_fair _ (by decide) (by decide)) (by decide) rfl]
    simp only
    rw [restF, step_gap (gapF s) [9, 9] (low_fair _ (by decide) (by decide)) (by decide) rfl]
    simp only
    rw [gap_gap, restF, step_nil, restF, step_nil, gap_gap]
  unfold inLines
  by_cases h2 : Int.tmod g 2 = 0
  · rw [if_pos h2]
    by_cases h3 : a = [] ∧ Int.tmod g 3 = 0
    · rw [if_pos h3]
      show restF s (_ :: [32] :: [9, 9] :: a :: r) = _
      rw [hm, hg h3.1]
    · rw [if_neg h3]
      show restF s (_ :: a :: r) = _
      rw [hm]
  · rw [if_neg h2]
    by_cases h3 : a = [] ∧ Int.tmod g 3 = 0
    · rw [if_pos h3]
      exact hg h3.1
    · rw [if_neg h3]
      rfl
theorem rest_idle (gs : List Int) : ∀ (ls r : List (List UInt8)) (k : Nat) (s : FS), restF s (idleLines gs k ls ++ r) = restF s (ls ++ r)
  | [], r, k, s => rfl
  | a :: ls, r, k, s => by
    have hr : ∀ s', restF s' (idleLines gs (idleK gs true k) ls ++ r) = restF s' (ls ++ r) := fun s' => rest_idle gs ls r _ s'
    have h1 : restF s (a :: (idleLines gs (idleK gs true k) ls ++ r)) = restF s (a :: (ls ++ r)) := by
      rw [restF, restF]
      cases stepF s a with
      | none => rfl
      | some s' => exact hr s'
    rw [idleLines, List.append_assoc, List.cons_append, List.cons_append, ← h1]
    by_cases hk : k < gs.length
    · rw [dif_pos hk, rest_in]
    · rw [dif_neg hk]
      rfl
theorem rest_tail : ∀ (ls : List (List UInt8)) (s : FS), restF s (ls ++ [[35, 32, 101, 110, 100], [], [32], [35]]) = restF s ls
  | [], s => by
    show restF s [[35, 32, 101, 110, 100], [], [32], [35]] = some (gapF s).1
    rw [restF, step_mark s _ (low_fair _ (by decide) (by decide)) (by decide)]
    simp only
    rw [restF, step_nil]
    simp only
    rw [restF, step_gap (gapF s) [32] (low_fair _ (by decide) (by decide)) (by decide) rfl]
    simp only
    rw [gap_gap, restF, step_mark _ [35] (low_fair _ (by decide) (by decide)) (by decide)]
    simp only
    rw [restF, gap_gap]
  | a :: ls, s => by
    rw [List.cons_append, restF, restF]
    cases stepF s a with
    | none => rfl
    | some s' => exact rest_tail ls s'
def idleT (gs : List Int) (s : List UInt8) : List UInt8 := openR ++ idleL gs true 0 s ++ tailR
theorem idle_lines (gs : List Int) (ls : List (List UInt8)) (h : ∀ a ∈ ls, noFeed a) : linesA (idleT gs (unlines ls)) = [[35, 32, 111, 110, 101], [32, 9]] ++ (idleLines gs 0 ls ++ [[35, 32, 101, 110, 100], [], [32], [35]]) := by
  have e : idleT gs (unlines ls) = unlines ([[35, 32, 111, 110, 101], [32, 9]] ++ (idleLines gs 0 ls ++ [[35, 32, 101, 110, 100], [], [32]])) ++ [35] := by
    unfold idleT
    rw [idle_unlines gs ls 0 h, unlines_append, unlines_append]
    have e1 : openR = unlines [[35, 32, 111, 110, 101], [32, 9]] := rfl
    have e2 : tailR = unlines [[35, 32, 101, 110, 100], [], [32]] ++ [35] := rfl
    rw [e1, e2]
    simp only [List.append_assoc]
  rw [e, lines_last [35] (by simp) (by intro c hc; revert c; decide) _ (fun a ha => by
    rcases List.mem_append.1 ha with ha | ha
    · rcases List.mem_cons.1 ha with rfl | ha
      · intro c hc; revert c; decide
      · obtain rfl := List.mem_singleton.1 ha
        intro c hc; revert c; decide
    · rcases List.mem_append.1 ha with ha | ha
      · exact idleLines_noFeed gs ls 0 h a ha
      · rcases List.mem_cons.1 ha with rfl | ha
        · intro c hc; revert c; decide
        · rcases List.mem_cons.1 ha with rfl | ha
          · intro c hc; cases hc
          · obtain rfl := List.mem_singleton.1 ha
            intro c hc; revert c; decide)]
  simp
theorem rest_open (s : FS) (h : s = ([], [])) (r : List (List UInt8)) : restF s ([[35, 32, 111, 110, 101], [32, 9]] ++ r) = restF s r := by
  subst h
  show restF ([], []) ([35, 32, 111, 110, 101] :: [32, 9] :: r) = _
  rw [restF, step_mark _ _ (low_fair _ (by decide) (by decide)) (by decide)]
  simp only
  rw [restF, step_gap _ [32, 9] (low_fair _ (by decide) (by decide)) (by decide) rfl]
  rfl
theorem read_idle (gs : List Int) (l : List S41) (h : formedC l = true) : ∃ l', readC (mkB (idleT gs (stanzasW 0 l))) = (l', 0, 0) ∧ l'.map (·.f1) = l.map (·.f1) :=
  read_of_rest (s := mkB (idleT gs (stanzasW 0 l))) (by
    have ht := text_lines l h
    have hn := stanzasLines_noFeed l 0 (formed_mem h)
    have e : linesA (mkB (idleT gs (stanzasW 0 l))).data.toList = [[35, 32, 111, 110, 101], [32, 9]] ++ (idleLines gs 0 (stanzasLines 0 l) ++ [[35, 32, 101, 110, 100], [], [32], [35]]) := by
      show linesA (idleT gs (stanzasW 0 l)) = _
      rw [ht.1]
      exact idle_lines gs _ hn
    rw [e, rest_open _ rfl, rest_idle, rest_tail]
    exact rest_stanzas l h)
end Go.Proofs.YtbaiglikmneicaaDoor.P
