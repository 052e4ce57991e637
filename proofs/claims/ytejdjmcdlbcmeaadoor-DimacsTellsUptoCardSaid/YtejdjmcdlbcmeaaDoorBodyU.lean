/- The program's reading line by line against the reference's reading word by word. No conditions. -/
import Derived.Test.YtejdjmcdlbcmeaaDoorSpokenU
import Derived.Test.YtejdjmcdlbcmeaaDoorNumU
set_option linter.unusedVariables false
set_option linter.unusedSimpArgs false
namespace Go.Proofs.YtejdjmcdlbcmeaaDoor.U
open Go.Proofs.YtejdjmcdlbcmeaaDoor.R Go.RowKit Go.Lib Go.Proofs.YtejdjmcdlbcmeaaDoorW.PrintWords Go.Proofs.YtejdjmcdlbcmeaaDoorW.PrintLast Go.Proofs.YtejdjmcdlbcmeaaDoorW.PrintMore

theorem word_tens (s : ByteArray) : (numR s).2 = tensB s.data.toList := by
  have := (num_is s.data.toList).1
  rwa [mkB_data] at this
theorem word_val (s : ByteArray) (hs : s.size ≤ 281474976710656) (h : tensB s.data.toList = true) : ∃ v, depotref03_Value.f s = some v ∧ near v (numR s).1 := by
  have hsz : s.data.toList.length = s.size := by simp
  obtain ⟨v, h1, h2⟩ := value_is s.data.toList (by omega) h
  have h3 := (num_is s.data.toList).2 h
  rw [mkB_data] at h1 h3
  exact ⟨v, h1, by rw [h3]; exact h2⟩
/-- What is answered for the words behind the head. -/
def bodyD (T : Nat) : List S73 → FSt → Int × List (List Int) × Int × Int
  | [], st => if endD st = 0 then (st.vars, st.cls, 0, 0) else (0, [], endD st, ((T + 1 : Nat) : Int))
  | w :: r, st => if (wordD st w.f0).2 = 0 then bodyD T r (wordD st w.f0).1 else (0, [], (wordD st w.f0).2, w.f1)
def toR (r : FSt × Int × Nat) : Int × List (List Int) × Int × Int := if r.2.1 = 0 then (r.1.vars, r.1.cls, 0, 0) else (0, [], r.2.1, (r.2.2 : Int))
theorem wordD_headed (st : FSt) (w : ByteArray) : (wordD st w).1.headed = st.headed := by
  unfold wordD
  split
  · rfl
  · split
    · rfl
    · split <;> rfl
theorem wordsD_headed : ∀ (ws : List ByteArray) (st : FSt), (wordsD st ws).1.headed = st.headed := by
  intro ws
  induction ws with
  | nil => intro st; rfl
  | cons w r ih =>
    intro st
    unfold wordsD
    split
    · rw [ih, wordD_headed]
    · exact wordD_headed st w
theorem body_words (T n : Nat) (rest : List S73) : ∀ (ws : List ByteArray) (st : FSt), bodyD T (ws.map (at_ n) ++ rest) st = if (wordsD st ws).2 = 0 then bodyD T rest (wordsD st ws).1 else (0, [], (wordsD st ws).2, (n : Int)) := by
  intro ws
  induction ws with
  | nil => intro st; rfl
  | cons w r ih =>
    intro st
    have e : bodyD T ((w :: r).map (at_ n) ++ rest) st = if (wordD st w).2 = 0 then bodyD T (r.map (at_ n) ++ rest) (wordD st w).1 else (0, [], (wordD st w).2, (n : Int)) := rfl
    have e2 : wordsD st (w :: r) = if (wordD st w).2 = 0 then wordsD (wordD st w).1 r else wordD st w := rfl
    rw [e, e2]
    by_cases h : (wordD st w).2 = 0
    · rw [if_pos h, if_pos h, ih]
    · rw [if_neg h, if_neg h, if_neg h]
theorem rem_is (l : List UInt8) : remB (mkB l) = hasPrefix l [99] := by
  unfold remB
  cases l with
  | nil => rfl
  | cons c r =>
    rw [bt_head (mkB (c :: r)) (mkB_list (c :: r)), mkB_size, decide_eq_true (by simp), Bool.true_and]
    have e : hasPrefix (c :: r) [99] = (99 == c) := by simp [hasPrefix, List.isPrefixOf]
    rw [e]
    by_cases hc : c = 99
    · subst hc; rfl
    · have h1 : (99 == c) = false := beq_eq_false_iff_ne.2 (fun h => hc h.symm)
      have h2 : ((c.toNat : Int) == 99) = false := beq_eq_false_iff_ne.2 (fun h => hc (UInt8.toNat_inj.1 (show c.toNat = (99 : UInt8).toNat by have e99 : (99 : UInt8).toNat = 99 := rfl; omega)))
      rw [h1, h2]
theorem spk_cons (l : List UInt8) (r : List (List UInt8)) (n : Nat) : spkB ((l :: r).map mkB) n = (if idleB l then [] else (wordsB (mkB l)).map (at_ (n + 1))) ++ spkB (r.map mkB) (n + 1) := by
  have e : spkB ((l :: r).map mkB) n = (if remB (mkB l) then [] else (wordsB (mkB l)).map (at_ (n + 1))) ++ spkB (r.map mkB) (n + 1) := rfl
  rw [e, rem_is]
  unfold idleB
  cases hp : hasPrefix l [99] with
  | true => rfl
  | false =>
    rw [Bool.false_or]
    cases hw : wordsB (mkB l) with
    | nil => rfl
    | cons a b => rfl
theorem lines_body : ∀ (L : List (List UInt8)) (n : Nat) (st : FSt), st.headed = true → toR (linesD L n st) = bodyD (n + L.length) (spkB (L.map mkB) n) st := by
  intro L
  induction L with
  | nil =>
    intro n st _
    have e : linesD [] n st = (st, endD st, if endD st = 0 then 0 else n + 1) := rfl
    have e2 : bodyD (n + ([] : List (List UInt8)).length) (spkB (([] : List (List UInt8)).map mkB) n) st = if endD st = 0 then (st.vars, st.cls, 0, 0) else (0, [], endD st, ((n + 1 : Nat) : Int)) := rfl
    rw [e, e2]
    unfold toR
    simp only
    by_cases h : endD st = 0
    · rw [if_pos h, if_pos h]
    · rw [if_neg h, if_neg h, if_neg h]
  | cons l r ih =>
    intro n st hh
    have e : linesD (l :: r) n st = if idleB l then linesD r (n + 1) st else if (lineD st (wordsB (mkB l))).2 = 0 then linesD r (n + 1) (lineD st (wordsB (mkB l))).1 else ((lineD st (wordsB (mkB l))).1, (lineD st (wordsB (mkB l))).2, n + 1) := rfl
    rw [e, spk_cons, List.length_cons, show n + (r.length + 1) = n + 1 + r.length by omega]
    cases hi : idleB l with
    | true => rw [if_pos rfl, if_pos rfl, List.nil_append]; exact ih (n + 1) st hh
    | false =>
      have hl : lineD st (wordsB (mkB l)) = wordsD st (wordsB (mkB l)) := by unfold lineD; rw [if_pos hh]
      simp only [Bool.false_eq_true, if_false]
      rw [hl, body_words]
      by_cases h : (wordsD st (wordsB (mkB l))).2 = 0
      · rw [if_pos h, if_pos h]
        exact ih (n + 1) _ (by rw [wordsD_headed]; exact hh)
      · rw [if_neg h, if_neg h]
        unfold toR
        simp only
        rw [if_neg h]
theorem spk_gt : ∀ (X : List ByteArray) (n : Nat), ∀ x ∈ spkB X n, (n : Int) < x.f1 := by
  intro X
  induction X with
  | nil => intro n x h; simp [spkB] at h
  | cons s r ih =>
    intro n x h
    unfold spkB at h
    rcases List.mem_append.1 h with h | h
    · split at h
      · simp at h
      · obtain ⟨w, _, rfl⟩ := List.mem_map.1 h
        show (n : Int) < ((n + 1 : Nat) : Int)
        omega
    · have := ih (n + 1) x h
      omega
theorem lines_first : ∀ (L : List (List UInt8)) (n : Nat), (spkB (L.map mkB) n = [] ∧ toR (linesD L n fst0) = (0, [], 30, ((n + L.length + 1 : Nat) : Int))) ∨
    ∃ (ws : List ByteArray) (m : Nat) (rest : List S73), ws ≠ [] ∧ spkB (L.map mkB) n = ws.map (at_ m) ++ rest ∧ (∀ x ∈ rest, x.f1 ≠ (m : Int)) ∧
      toR (linesD L n fst0) = if (headR ws).2.2 = true then bodyD (n + L.length) rest ⟨true, (headR ws).2.1, (headR ws).1, [], []⟩ else (0, [], 30, (m : Int)) := by
  intro L
  induction L with
  | nil => intro n; exact Or.inl ⟨rfl, rfl⟩
  | cons l r ih =>
    intro n
    have e : linesD (l :: r) n fst0 = if idleB l then linesD r (n + 1) fst0 else if (lineD fst0 (wordsB (mkB l))).2 = 0 then linesD r (n + 1) (lineD fst0 (wordsB (mkB l))).1 else ((lineD fst0 (wordsB (mkB l))).1, (lineD fst0 (wordsB (mkB l))).2, n + 1) := rfl
    rw [e, spk_cons, List.length_cons, show n + (r.length + 1) = n + 1 + r.length by omega]
    cases hi : idleB l with
    | true => rw [if_pos rfl, if_pos rfl, List.nil_append]; exact ih (n + 1)
    | false =>
      refine Or.inr ⟨wordsB (mkB l), n + 1, spkB (r.map mkB) (n + 1), ?_, by rw [if_neg (by decide)], fun x hx => ?_, ?_⟩
      · intro h
        unfold idleB at hi
        rw [h] at hi
        simp at hi
      · have := spk_gt _ (n + 1) x hx
        omega
      · have hl : lineD fst0 (wordsB (mkB l)) = (⟨(headR (wordsB (mkB l))).2.2, (headR (wordsB (mkB l))).2.1, (headR (wordsB (mkB l))).1, [], []⟩, if (headR (wordsB (mkB l))).2.2 then 0 else 30) := rfl
        rw [if_neg (by decide), hl]
        cases hk : (headR (wordsB (mkB l))).2.2 with
        | true =>
          simp only [if_true]
          exact lines_body r (n + 1) _ rfl
        | false =>
          simp only
          rfl
end Go.Proofs.YtejdjmcdlbcmeaaDoor.U
