/- dimacs.ReadAnswer line by line against the reference's reading word by word. No conditions. -/
import Derived.Test.YtejdjmcdlbcmeaaDoorBodyU
import Derived.Test.YtejdjmcdlbcmeaaDoorTellR
set_option linter.unusedVariables false
set_option linter.unusedSimpArgs false
namespace Go.Proofs.YtejdjmcdlbcmeaaDoor.U
open Go.Proofs.YtejdjmcdlbcmeaaDoor.R Go.RowKit Go.Lib Go.Proofs.YtejdjmcdlbcmeaaDoorW.PrintWords Go.Proofs.YtejdjmcdlbcmeaaDoorW.PrintLast Go.Proofs.YtejdjmcdlbcmeaaDoorW.PrintMore

def toA (r : ASt × Int × Nat) : Bool × List Bool × Int × Int := if r.2.1 = 0 then (r.1.sat, r.1.model, 0, 0) else (false, [], r.2.1, (r.2.2 : Int))
/-- What is answered for the words behind the first line, which said 'satisfiable'; prev: the line of the word ahead. -/
def bodyA (T : Nat) : Int → List S73 → ASt → Bool × List Bool × Int × Int
  | _, [], st => if endA st = 0 then (st.sat, st.model, 0, 0) else (false, [], endA st, ((T + 1 : Nat) : Int))
  | prev, w :: r, st => if w.f1 = prev then (if (wordA st w.f0).2 = 0 then bodyA T prev r (wordA st w.f0).1 else (false, [], (wordA st w.f0).2, w.f1))
    else if w.f0.toList = kV then bodyA T w.f1 r st else (false, [], 35, w.f1)
theorem wordA_told (st : ASt) (w : ByteArray) : (wordA st w).1.told = st.told ∧ (wordA st w).1.sat = st.sat := by
  unfold wordA
  repeat' split
  all_goals exact ⟨rfl, rfl⟩
theorem wordsA_told : ∀ (ws : List ByteArray) (st : ASt), (wordsA st ws).1.told = st.told ∧ (wordsA st ws).1.sat = st.sat := by
  intro ws
  induction ws with
  | nil => intro st; exact ⟨rfl, rfl⟩
  | cons w r ih =>
    intro st
    have h := wordA_told st w
    have h2 := ih (wordA st w).1
    unfold wordsA
    split
    · exact ⟨h2.1.trans h.1, h2.2.trans h.2⟩
    · exact h
theorem body_wordsA (T n : Nat) (rest : List S73) : ∀ (ws : List ByteArray) (st : ASt), bodyA T (n : Int) (ws.map (at_ n) ++ rest) st = if (wordsA st ws).2 = 0 then bodyA T (n : Int) rest (wordsA st ws).1 else (false, [], (wordsA st ws).2, (n : Int)) := by
  intro ws
  induction ws with
  | nil => intro st; rfl
  | cons w r ih =>
    intro st
    have e : bodyA T (n : Int) ((w :: r).map (at_ n) ++ rest) st = if (wordA st w).2 = 0 then bodyA T (n : Int) (r.map (at_ n) ++ rest) (wordA st w).1 else (false, [], (wordA st w).2, (n : Int)) := by
      show bodyA T (n : Int) (at_ n w :: (r.map (at_ n) ++ rest)) st = _
      rw [bodyA, if_pos (show (at_ n w).f1 = (n : Int) from rfl)]
      rfl
    have e2 : wordsA st (w :: r) = if (wordA st w).2 = 0 then wordsA (wordA st w).1 r else wordA st w := rfl
    rw [e, e2]
    by_cases h : (wordA st w).2 = 0
    · rw [if_pos h, if_pos h, ih]
    · rw [if_neg h, if_neg h, if_neg h]
theorem linesT_cons (l : List UInt8) (r : List (List UInt8)) (n : Nat) (st : ASt) : linesT (l :: r) n st = if idleB l then linesT r (n + 1) st else if (lineA st (wordsB (mkB l))).2 = 0 then linesT r (n + 1) (lineA st (wordsB (mkB l))).1 else ((lineA st (wordsB (mkB l))).1, (lineA st (wordsB (mkB l))).2, n + 1) := rfl
theorem toA_nil (n : Nat) (st : ASt) : toA (linesT [] n st) = if endA st = 0 then (st.sat, st.model, 0, 0) else (false, [], endA st, ((n + 1 : Nat) : Int)) := by
  have e : linesT [] n st = (st, endA st, if endA st = 0 then 0 else n + 1) := rfl
  rw [e]
  unfold toA
  simp only
  by_cases h : endA st = 0
  · rw [if_pos h, if_pos h]
  · rw [if_neg h, if_neg h, if_neg h]
theorem idle_ne {l : List UInt8} (h : idleB l = false) : wordsB (mkB l) ≠ [] := by
  intro e
  unfold idleB at h
  rw [e] at h
  simp at h
theorem lines_bodyA : ∀ (L : List (List UInt8)) (n : Nat) (prev : Int) (st : ASt), st.told = true → st.sat = true → prev ≤ (n : Int) → toA (linesT L n st) = bodyA (n + L.length) prev (spkB (L.map mkB) n) st := by
  intro L
  induction L with
  | nil =>
    intro n prev st ht hs hp
    rw [toA_nil]
    rfl
  | cons l r ih =>
    intro n prev st ht hs hp
    rw [linesT_cons, spk_cons, List.length_cons, show n + (r.length + 1) = n + 1 + r.length by omega]
    cases hi : idleB l with
    | true => rw [if_pos rfl, if_pos rfl, List.nil_append]; exact ih (n + 1) prev st ht hs (by omega)
    | false =>
      have hne := idle_ne hi
      obtain ⟨a, az, ha⟩ : ∃ a az, wordsB (mkB l) = a :: az := by
        cases h : wordsB (mkB l) with
        | nil => exact absurd h hne
        | cons a az => exact ⟨a, az, rfl⟩
      rw [ha]
      have hl : lineA st (a :: az) = if a.toList = kV then wordsA st az else (st, 35) := by
        unfold lineA
        rw [if_neg (by rw [ht]; decide), if_neg (by rw [hs]; decide)]
        rfl
      simp only [Bool.false_eq_true, if_false]
      rw [hl]
      have e : bodyA (n + 1 + r.length) prev ((a :: az).map (at_ (n + 1)) ++ spkB (r.map mkB) (n + 1)) st = if a.toList = kV then bodyA (n + 1 + r.length) ((n + 1 : Nat) : Int) (az.map (at_ (n + 1)) ++ spkB (r.map mkB) (n + 1)) st else (false, [], 35, ((n + 1 : Nat) : Int)) := by
        show bodyA (n + 1 + r.length) prev (at_ (n + 1) a :: (az.map (at_ (n + 1)) ++ spkB (r.map mkB) (n + 1))) st = _
        have hne : ¬ ((at_ (n + 1) a).f1 = prev) := by show ¬ (((n + 1 : Nat) : Int) = prev); omega
        rw [bodyA, if_neg hne]
        rfl
      rw [e]
      by_cases hv : a.toList = kV
      · rw [if_pos hv, if_pos hv, body_wordsA]
        by_cases h : (wordsA st az).2 = 0
        · rw [if_pos h, if_pos h]
          have := wordsA_told az st
          exact ih (n + 1) _ _ (this.1.trans ht) (this.2.trans hs) (by omega)
        · rw [if_neg h, if_neg h]
          unfold toA
          simp only
          rw [if_neg h]
      · rw [if_neg hv, if_neg hv]
        rfl
/-- What is answered behind a first line that said 'unsatisfiable'. -/
def unsA (st : ASt) : List S73 → Bool × List Bool × Int × Int
  | [] => (false, st.model, 0, 0)
  | x :: _ => (false, [], 35, x.f1)
theorem lines_uns : ∀ (L : List (List UInt8)) (n : Nat) (st : ASt), st.told = true → st.sat = false → toA (linesT L n st) = unsA st (spkB (L.map mkB) n) := by
  intro L
  induction L with
  | nil =>
    intro n st ht hs
    rw [toA_nil]
    have he : endA st = 0 := by unfold endA; rw [if_neg (by rw [ht]; decide), if_neg (by rw [hs]; simp)]
    rw [if_pos he, hs]
    rfl
  | cons l r ih =>
    intro n st ht hs
    rw [linesT_cons, spk_cons]
    cases hi : idleB l with
    | true => rw [if_pos rfl, if_pos rfl, List.nil_append]; exact ih (n + 1) st ht hs
    | false =>
      have hne := idle_ne hi
      obtain ⟨a, az, ha⟩ : ∃ a az, wordsB (mkB l) = a :: az := by
        cases h : wordsB (mkB l) with
        | nil => exact absurd h hne
        | cons a az => exact ⟨a, az, rfl⟩
      rw [ha]
      have hl : lineA st (a :: az) = (st, 35) := by
        unfold lineA
        rw [if_neg (by rw [ht]; decide), if_pos hs]
      simp only [Bool.false_eq_true, if_false]
      rw [hl]
      rfl
/-- What is answered behind the first line. -/
def restA (T : Nat) (m : Int) (rest : List S73) (st : ASt) : Bool × List Bool × Int × Int := if st.sat = true then bodyA T m rest st else unsA st rest
theorem firstA_told (ws : List ByteArray) (h : (firstA ast0 ws).2 = 0) : (firstA ast0 ws).1.told = true := by
  unfold firstA at h ⊢
  split at h
  · split at h
    · split at h
      · rename_i h1 h2 h3
        rw [if_pos h1, if_pos h2, if_pos h3]
      · split at h
        · rename_i h1 h2 h3 h4
          rw [if_pos h1, if_pos h2, if_neg h3, if_pos h4]
        · cases h
    · cases h
  · cases h
theorem lines_firstA : ∀ (L : List (List UInt8)) (n : Nat), (spkB (L.map mkB) n = [] ∧ toA (linesT L n ast0) = (false, [], 35, ((n + L.length + 1 : Nat) : Int))) ∨
    ∃ (ws : List ByteArray) (m : Nat) (rest : List S73), ws ≠ [] ∧ spkB (L.map mkB) n = ws.map (at_ m) ++ rest ∧ (∀ x ∈ rest, x.f1 ≠ (m : Int)) ∧
      toA (linesT L n ast0) = if (firstA ast0 ws).2 = 0 then restA (n + L.length) (m : Int) rest (firstA ast0 ws).1 else (false, [], 35, (m : Int)) := by
  intro L
  induction L with
  | nil => intro n; exact Or.inl ⟨rfl, rfl⟩
  | cons l r ih =>
    intro n
    rw [linesT_cons, spk_cons, List.length_cons, show n + (r.length + 1) = n + 1 + r.length by omega]
    cases hi : idleB l with
    | true => rw [if_pos rfl, if_pos rfl, List.nil_append]; exact ih (n + 1)
    | false =>
      refine Or.inr ⟨wordsB (mkB l), n + 1, spkB (r.map mkB) (n + 1), idle_ne hi, by rw [if_neg (by decide)], fun x hx => ?_, ?_⟩
      · have := spk_gt _ (n + 1) x hx
        omega
      · have hl : lineA ast0 (wordsB (mkB l)) = firstA ast0 (wordsB (mkB l)) := by unfold lineA; rw [if_pos (show ast0.told = false from rfl)]
        rw [if_neg (by decide), hl]
        by_cases h : (firstA ast0 (wordsB (mkB l))).2 = 0
        · rw [if_pos h, if_pos h]
          have ht := firstA_told _ h
          unfold restA
          cases hs : (firstA ast0 (wordsB (mkB l))).1.sat with
          | true =>
            rw [if_pos rfl]
            exact lines_bodyA r (n + 1) _ _ ht hs (Int.le_refl _)
          | false =>
            rw [if_neg (by decide)]
            exact lines_uns r (n + 1) _ ht hs
        · rw [if_neg h, if_neg h]
          have h35 : (firstA ast0 (wordsB (mkB l))).2 = 35 := by
            unfold firstA at h ⊢
            repeat' split
            all_goals first | rfl | simp_all
          unfold toA
          simp only
          rw [if_neg h, h35]
end Go.Proofs.YtejdjmcdlbcmeaaDoor.U
