/- Blanks at the ends, cuts at a byte, lines and pieces: plain laws on lists of bytes. No conditions. Stanzas that are written are read as they were, but for their lines. No conditions. -/
import Derived.Test.YtbaiglikmneicaaDoorELibC
import Derived.Test.YtbaiglikmneicaaDoorEWriteC
import Derived.Test.YtbaiglikmneicaaDoorEReadC
section
set_option linter.unusedVariables false
set_option linter.unusedSimpArgs false
namespace Go.Proofs.YtbaiglikmneicaaDoor.P
open Go.Lib
open Go.Proofs.YtbaiglikmneicaaDoor.R (mkB mkB_size mkB_data pieces linesA linesA_nil linesA_cons cut_run cut_cons)
open Go.Proofs.YtbaiglikmneicaaDoor.C (fairL okC fair_at fair_nil)

def blankB (b : UInt8) : Bool := blanksC.contains b
theorem blankB_iff (b : UInt8) : blankB b = true ↔ b = 32 ∨ b = 9 := by unfold blankB blanksC; simp
theorem blankB_low {b : UInt8} (h : blankB b = true) : b.toNat < 128 := by rcases (blankB_iff b).1 h with rfl | rfl <;> decide
theorem blankB_ok {b : UInt8} (f : Bool) (h : blankB b = true) : okC f b = true := by rcases (blankB_iff b).1 h with rfl | rfl <;> cases f <;> decide
def tight (p : List UInt8) : Prop := (∀ b, p.head? = some b → blankB b = false) ∧ (∀ b, p.getLast? = some b → blankB b = false)
theorem drop_head {q : UInt8 → Bool} : ∀ {l : List UInt8}, (∀ b, l.head? = some b → q b = false) → l.dropWhile q = l
  | [], _ => rfl
  | b :: l, h => by rw [List.dropWhile_cons_of_neg (by rw [h b rfl]; decide)]
theorem head_drop (q : UInt8 → Bool) : ∀ (l : List UInt8) (b : UInt8), (l.dropWhile q).head? = some b → q b = false
  | [], b, h => by simp at h
  | c :: l, b, h => by
    cases hq : q c with
    | true => rw [List.dropWhile_cons_of_pos hq] at h; exact head_drop q l b h
    | false =>
      rw [List.dropWhile_cons_of_neg (by rw [hq]; decide)] at h
      obtain rfl : c = b := by simpa using h
      exact hq
theorem last_drop (q : UInt8 → Bool) : ∀ (l : List UInt8) (b : UInt8), (l.dropWhile q).getLast? = some b → l.getLast? = some b
  | [], b, h => by simp at h
  | c :: l, b, h => by
    cases hq : q c with
    | true =>
      rw [List.dropWhile_cons_of_pos hq] at h
      have := last_drop q l b h
      cases l with
      | nil => simp at this
      | cons d l => rw [List.getLast?_cons_cons]; exact this
    | false =>
      rw [List.dropWhile_cons_of_neg (by rw [hq]; decide)] at h
      exact h
theorem trimC_eq (l : List UInt8) : trimC l = (l.reverse.dropWhile blankB).reverse.dropWhile blankB := rfl
theorem trim_tight (l : List UInt8) : tight (trimC l) := by
  rw [trimC_eq]
  refine ⟨fun b h => head_drop _ _ b h, fun b h => ?_⟩
  have h1 := last_drop _ _ b h
  rw [List.getLast?_reverse] at h1
  exact head_drop _ _ b h1
theorem trim_of_tight {p : List UInt8} (h : tight p) : trimC p = p := by
  rw [trimC_eq, drop_head (l := p.reverse) (fun b hb => h.2 b (by rw [← List.head?_reverse]; exact hb)), List.reverse_reverse, drop_head h.1]
theorem tight_iff (p : List UInt8) : trimC p = p ↔ tight p := ⟨fun h => h ▸ trim_tight p, trim_of_tight⟩
theorem trim_blank {b : UInt8} (hb : blankB b = true) {p : List UInt8} (h : tight p) : trimC (b :: p) = p := by
  by_cases hp : p = []
  · subst hp
    rw [trimC_eq]
    simp [hb]
  · have e : (b :: p).reverse.dropWhile blankB = (b :: p).reverse := drop_head (fun c hc => h.2 c (by
      rw [List.head?_reverse] at hc
      obtain ⟨d, q, rfl⟩ := List.exists_cons_of_ne_nil hp
      rw [List.getLast?_cons_cons] at hc
      exact hc))
    rw [trimC_eq, e, List.reverse_reverse, List.dropWhile_cons_of_pos hb, drop_head h.1]
theorem mem_take (q : UInt8 → Bool) : ∀ (l : List UInt8) (b : UInt8), b ∈ l.takeWhile q → q b = true
  | [], b, h => by cases h
  | c :: l, b, h => by
    cases hq : q c with
    | true =>
      rw [List.takeWhile_cons_of_pos hq] at h
      rcases List.mem_cons.1 h with rfl | h
      · exact hq
      · exact mem_take q l b h
    | false => rw [List.takeWhile_cons_of_neg (by rw [hq]; decide)] at h; cases h
theorem trim_parts (l : List UInt8) : ∃ x y, l = x ++ trimC l ++ y ∧ (∀ b ∈ x, blankB b = true) ∧ (∀ b ∈ y, blankB b = true) := by
  have h1 := List.takeWhile_append_dropWhile (p := blankB) (l := l.reverse)
  have h2 := List.takeWhile_append_dropWhile (p := blankB) (l := (l.reverse.dropWhile blankB).reverse)
  refine ⟨(l.reverse.dropWhile blankB).reverse.takeWhile blankB, (l.reverse.takeWhile blankB).reverse, ?_, fun b hb => ?_, fun b hb => ?_⟩
  · rw [trimC_eq, h2, ← List.reverse_append, h1, List.reverse_reverse]
  · exact mem_take _ _ _ hb
  · exact mem_take _ _ _ (List.mem_reverse.1 hb)
theorem trim_mem {l : List UInt8} {b : UInt8} (h : b ∈ trimC l) : b ∈ l := by
  obtain ⟨x, y, e, _, _⟩ := trim_parts l
  rw [e]
  simp [h]
theorem fair_cons (f : Bool) (b : UInt8) (l : List UInt8) (hb : b.toNat < 128) (hk : okC f b = true) : fairL f (b :: l) = fairL f l := by
  have := fair_at f [] b l hb hk
  rw [fair_nil, Bool.true_and] at this
  exact this
theorem fair_left (f : Bool) : ∀ (x l : List UInt8), (∀ b ∈ x, blankB b = true) → fairL f (x ++ l) = fairL f l
  | [], _, _ => rfl
  | b :: x, l, h => by
    have hb := h b List.mem_cons_self
    rw [List.cons_append, fair_cons f b _ (blankB_low hb) (blankB_ok f hb)]
    exact fair_left f x l (fun c hc => h c (List.mem_cons_of_mem _ hc))
theorem fair_right (f : Bool) : ∀ (y l : List UInt8), (∀ b ∈ y, blankB b = true) → fairL f (l ++ y) = fairL f l
  | [], l, _ => by rw [List.append_nil]
  | b :: y, l, h => by
    have hb := h b List.mem_cons_self
    have hy := fair_left f y [] (fun c hc => h c (List.mem_cons_of_mem _ hc))
    rw [List.append_nil, fair_nil] at hy
    rw [fair_at f l b y (blankB_low hb) (blankB_ok f hb), hy, Bool.and_true]
theorem fair_trim (f : Bool) (l : List UInt8) : fairL f (trimC l) = fairL f l := by
  obtain ⟨x, y, e, hx, hy⟩ := trim_parts l
  conv => rhs; rw [e]
  rw [fair_right f y _ hy, fair_left f x _ hx]

/-! ### a cut at a byte -/
theorem index_byte (c : UInt8) (r : List UInt8) : ∀ a : List UInt8, (∀ x ∈ a, x ≠ c) → index (a ++ c :: r) [c] = (a.length : Int)
  | [], _ => by
    show (if ([c] : List UInt8).isPrefixOf (c :: r) then _ else _) = _
    rw [if_pos (by simp [List.isPrefixOf])]; rfl
  | b :: a, h => by
    have hb := h b List.mem_cons_self
    have ih := index_byte c r a (fun x hx => h x (List.mem_cons_of_mem _ hx))
    show (if ([c] : List UInt8).isPrefixOf (b :: (a ++ c :: r)) then _ else if index (a ++ c :: r) [c] == -1 then _ else index (a ++ c :: r) [c] + 1) = _
    rw [if_neg (by simp [List.isPrefixOf]; exact fun e => hb e.symm), ih, if_neg (by simp only [beq_iff_eq]; omega), List.length_cons]
    omega
theorem cut_byte (c : UInt8) (a r : List UInt8) (h : ∀ x ∈ a, x ≠ c) : cut (a ++ c :: r) [c] = (a, r, true) := by
  unfold cut
  rw [index_byte c r a h, if_pos (by omega)]
  simp only [Int.toNat_natCast, List.length_cons, List.length_nil]
  rw [List.take_left, show a ++ c :: r = (a ++ [c]) ++ r by simp, List.drop_left' (by simp)]
theorem index_hit (c : UInt8) : ∀ l : List UInt8, 0 ≤ index l [c] → l = l.take (index l [c]).toNat ++ c :: l.drop ((index l [c]).toNat + 1)
  | [], h => by simp [index] at h
  | b :: l, h => by
    have e : index (b :: l) [c] = if ([c] : List UInt8).isPrefixOf (b :: l) then 0 else if index l [c] == -1 then -1 else index l [c] + 1 := rfl
    by_cases hp : ([c] : List UInt8).isPrefixOf (b :: l) = true
    · rw [if_pos hp] at e
      rw [e]
      simp [List.isPrefixOf] at hp
      simp [hp]
    · rw [if_neg hp] at e
      by_cases hm : (index l [c] == -1) = true
      · rw [if_pos hm] at e
        rw [e] at h
        exact absurd h (by decide)
      · rw [if_neg hm] at e
        have hge := index_ge l [c]
        have hne : index l [c] ≠ -1 := fun he => hm (beq_iff_eq.2 he)
        obtain ⟨i, hi⟩ : ∃ i : Nat, index l [c] = i := ⟨(index l [c]).toNat, by omega⟩
        have ih := index_hit c l (by omega)
        rw [hi, Int.toNat_natCast] at ih
        rw [e, hi, show ((i : Int) + 1).toNat = i + 1 by omega, List.take_succ_cons, List.drop_succ_cons, List.cons_append, ← ih]
theorem cut_join (c : UInt8) (l a r : List UInt8) (h : cut l [c] = (a, r, true)) : l = a ++ c :: r := by
  unfold cut at h
  split at h
  · rename_i hi
    have e := index_hit c l hi
    simp only [Prod.mk.injEq, and_true, List.length_cons, List.length_nil] at h
    rw [← h.1, ← h.2]
    exact e
  · simp at h

/-! ### lines and pieces -/
def unlines (ls : List (List UInt8)) : List UInt8 := ls.flatMap (· ++ [10])
def noFeed (l : List UInt8) : Prop := ∀ c ∈ l, c ≠ 10
theorem lines_cons (a r : List UInt8) (h : noFeed a) : linesA (a ++ 10 :: r) = a :: linesA r := by
  rw [linesA_cons _ (by simp), cut_byte 10 a r h]
theorem lines_unlines : ∀ ls : List (List UInt8), (∀ a ∈ ls, noFeed a) → linesA (unlines ls) = ls
  | [], _ => rfl
  | a :: ls, h => by
    have e : unlines (a :: ls) = a ++ 10 :: unlines ls := by unfold unlines; simp
    rw [e, lines_cons a _ (h a List.mem_cons_self), lines_unlines ls (fun x hx => h x (List.mem_cons_of_mem _ hx))]
theorem unlines_append (a b : List (List UInt8)) : unlines (a ++ b) = unlines a ++ unlines b := by unfold unlines; rw [List.flatMap_append]
theorem lines_noFeed (n : Nat) : ∀ l : List UInt8, l.length ≤ n → ∀ a ∈ linesA l, noFeed a := by
  induction n with
  | zero =>
    intro l h a ha
    have : l = [] := List.eq_nil_of_length_eq_zero (by omega)
    subst this
    rw [linesA_nil] at ha
    cases ha
  | succ n ih =>
    intro l h a ha
    by_cases hl : l = []
    · subst hl; rw [linesA_nil] at ha; cases ha
    · rw [linesA_cons l hl] at ha
      have hc := R.cut_len l hl
      rcases List.mem_cons.1 ha with rfl | ha
      · rcases R.first10 l with hno | ⟨k, h1, h2⟩
        · rw [R.cut_no l hno]
          intro c hc e
          obtain ⟨i, hi, hx⟩ := List.getElem_of_mem hc
          exact hno i (by rw [List.getElem?_eq_getElem hi, hx, e])
        · rw [R.cut_at l k h1 h2]
          intro c hc e
          obtain ⟨i, hi, hx⟩ := List.getElem_of_mem hc
          rw [List.length_take] at hi
          rw [List.getElem_take] at hx
          exact h1 i (by omega) (by rw [List.getElem?_eq_getElem (by omega), hx, e])
      · exact ih _ (by omega) a ha
def joinL : List (List UInt8) → List UInt8
  | [] => []
  | p :: ps => p ++ ps.flatMap (10 :: ·)
theorem join_pieces : ∀ l : List UInt8, joinL (pieces l) = l
  | [] => rfl
  | b :: l => by
    have ih := join_pieces l
    rw [pieces]
    by_cases hb : b = 10
    · rw [if_pos hb, hb]
      cases h : pieces l with
      | nil => exact absurd h (R.pieces_ne l)
      | cons p ps => rw [h] at ih; simp only [joinL, List.nil_append, List.flatMap_cons] at ih ⊢; rw [← ih]; simp
    · rw [if_neg hb]
      cases h : pieces l with
      | nil => exact absurd h (R.pieces_ne l)
      | cons p ps => rw [h] at ih; simp only [joinL] at ih ⊢; rw [← ih]; simp
theorem pieces_noFeed : ∀ l : List UInt8, ∀ p ∈ pieces l, noFeed p
  | [], p, hp => by simp [pieces] at hp; subst hp; intro c hc; cases hc
  | b :: l, p, hp => by
    have ih := pieces_noFeed l
    rw [pieces] at hp
    by_cases hb : b = 10
    · rw [if_pos hb] at hp
      rcases List.mem_cons.1 hp with rfl | hp
      · intro c hc; cases hc
      · exact ih p hp
    · rw [if_neg hb] at hp
      cases h : pieces l with
      | nil => exact absurd h (R.pieces_ne l)
      | cons q qs =>
        rw [h] at hp
        rcases List.mem_cons.1 hp with rfl | hp
        · intro c hc
          rcases List.mem_cons.1 hc with rfl | hc
          · exact hb
          · exact ih q (by rw [h]; exact List.mem_cons_self) c hc
        · exact ih p (by rw [h]; exact List.mem_cons_of_mem _ hp)
theorem pieces_line : ∀ l : List UInt8, noFeed l → pieces l = [l]
  | [], _ => rfl
  | b :: l, h => by
    rw [pieces, if_neg (h b List.mem_cons_self), pieces_line l (fun c hc => h c (List.mem_cons_of_mem _ hc))]
theorem pieces_snoc (t : List UInt8) (ht : noFeed t) : ∀ l : List UInt8, pieces (l ++ 10 :: t) = pieces l ++ [t]
  | [] => by
    show pieces (10 :: t) = [[], t]
    rw [show pieces (10 :: t) = [] :: pieces t from by rw [pieces, if_pos rfl], pieces_line t ht]
  | b :: l => by
    have ih := pieces_snoc t ht l
    rw [List.cons_append, pieces, pieces, ih]
    by_cases hb : b = 10
    · rw [if_pos hb, if_pos hb]; rfl
    · rw [if_neg hb, if_neg hb]
      cases h : pieces l with
      | nil => exact absurd h (R.pieces_ne l)
      | cons q qs => rfl
end Go.Proofs.YtbaiglikmneicaaDoor.P
end
section
set_option linter.unusedVariables false
set_option linter.unusedSimpArgs false
namespace Go.Proofs.YtbaiglikmneicaaDoor.P
open Go.Lib
open Go.Proofs.YtbaiglikmneicaaDoor.R (mkB mkB_size mkB_data pieces linesA)
open Go.Proofs.YtbaiglikmneicaaDoor.C (fairL okC fair_at fair_nil fair_line fair_ascii)

/-- As readC, lines forgotten: the stanzas' fields, and those under way. -/
abbrev FS := List (List S50) × List S50
def gapF (s : FS) : FS := if s.2 = [] then s else (s.1 ++ [s.2], [])
def stepF (s : FS) (a : List UInt8) : Option FS :=
  if fairL false a = false then none
  else if hasPrefix a [35] = true then some s
  else if trimC a = [] then some (gapF s)
  else if (hasPrefix a [32] || hasPrefix a [9]) = true then (if s.2 = [] then none else some (s.1, moreC s.2 (trimC a)))
  else if (!(cut a [58]).2.2 || !nameL (cut a [58]).1) = true then none
  else if hasF s.2 (mkB (cut a [58]).1) = true then none
  else some (s.1, s.2 ++ [fieldC a])
def restF : FS → List (List UInt8) → Option (List (List S50))
  | s, [] => some (gapF s).1
  | s, a :: r => match stepF s a with
    | some s' => restF s' r
    | none => none
def forget (st : CS) : FS := (st.out.map (·.f1), st.fs)
theorem forget_gap (st : CS) : forget (gapC st) = gapF (forget st) := by
  unfold gapC gapF forget
  by_cases h : st.fs = []
  · rw [if_pos h, if_pos h]
  · rw [if_neg h, if_neg h]; simp
theorem step_forget (st : CS) (a : List UInt8) (n : Nat) : (∃ s', stepF (forget st) a = some s' ∧ (stepC st a n).2 = 0 ∧ forget (stepC st a n).1 = s') ∨ (stepF (forget st) a = none ∧ (stepC st a n).2 ≠ 0) := by
  unfold stepF stepC
  by_cases h1 : fairL false a = false
  · rw [if_pos h1, if_pos h1]; exact Or.inr ⟨rfl, by show (212 : Int) ≠ 0; decide⟩
  rw [if_neg h1, if_neg h1]
  by_cases h2 : hasPrefix a [35] = true
  · rw [if_pos h2, if_pos h2]; exact Or.inl ⟨_, rfl, rfl, rfl⟩
  rw [if_neg h2, if_neg h2]
  by_cases h3 : trimC a = []
  · rw [if_pos h3, if_pos h3]; exact Or.inl ⟨_, rfl, rfl, forget_gap st⟩
  rw [if_neg h3, if_neg h3]
  by_cases h4 : (hasPrefix a [32] || hasPrefix a [9]) = true
  · rw [if_pos h4, if_pos h4]
    show (∃ s', (if st.fs = [] then _ else _) = _ ∧ _) ∨ _
    by_cases h5 : st.fs = []
    · rw [if_pos h5, if_pos h5]; exact Or.inr ⟨if_pos h5, by show (210 : Int) ≠ 0; decide⟩
    · rw [if_neg h5, if_neg h5]; exact Or.inl ⟨_, rfl, rfl, rfl⟩
  rw [if_neg h4, if_neg h4]
  by_cases h5 : (!(cut a [58]).2.2 || !nameL (cut a [58]).1) = true
  · rw [if_pos h5, if_pos h5]; exact Or.inr ⟨rfl, by show (210 : Int) ≠ 0; decide⟩
  rw [if_neg h5, if_neg h5]
  show (∃ s', (if hasF st.fs _ = true then _ else _) = _ ∧ _) ∨ _
  by_cases h6 : hasF st.fs (mkB (cut a [58]).1) = true
  · rw [if_pos h6, if_pos h6]; exact Or.inr ⟨if_pos h6, by show (211 : Int) ≠ 0; decide⟩
  · rw [if_neg h6, if_neg h6]; exact Or.inl ⟨_, rfl, rfl, rfl⟩
theorem rest_forget (ls : List (List UInt8)) : ∀ (st : CS) (n : Nat), (∃ r, restF (forget st) ls = some r ∧ (restC st n ls).2 = (0, 0) ∧ (restC st n ls).1.map (·.f1) = r) ∨ (restF (forget st) ls = none ∧ (restC st n ls).2.1 ≠ 0 ∧ (restC st n ls).1 = []) := by
  induction ls with
  | nil =>
    intro st n
    refine Or.inl ⟨_, rfl, rfl, ?_⟩
    rw [← forget_gap]
    rfl
  | cons a ls ih =>
    intro st n
    rcases step_forget st a (n + 1) with ⟨s', h1, h2, h3⟩ | ⟨h1, h2⟩
    · have e : restC st n (a :: ls) = restC (stepC st a (n + 1)).1 (n + 1) ls := by rw [restC, if_pos h2]
      rw [e, restF, h1, ← h3]
      exact ih _ _
    · have e : restC st n (a :: ls) = ([], (stepC st a (n + 1)).2, ((n + 1 : Nat) : Int)) := by rw [restC, if_neg h2]
      rw [e, restF, h1]
      exact Or.inr ⟨rfl, h2, rfl⟩
theorem read_of_rest {s : ByteArray} {r : List (List S50)} (h : restF ([], []) (linesA s.data.toList) = some r) : ∃ l, readC s = (l, 0, 0) ∧ l.map (·.f1) = r := by
  rcases rest_forget (linesA s.data.toList) cs0 0 with ⟨r', h1, h2, h3⟩ | ⟨h1, _⟩
  · have e : forget cs0 = ([], []) := rfl
    rw [e, h] at h1
    obtain rfl := Option.some.inj h1
    refine ⟨(readC s).1, ?_, h3⟩
    have : (readC s).2 = (0, 0) := h2
    rw [← this]
  · have e : forget cs0 = ([], []) := rfl
    rw [e, h] at h1
    cases h1
theorem rest_of_read {s : ByteArray} (h : (readC s).2.1 = 0) : restF ([], []) (linesA s.data.toList) = some ((readC s).1.map (·.f1)) ∧ (readC s).2 = (0, 0) := by
  rcases rest_forget (linesA s.data.toList) cs0 0 with ⟨r', h1, h2, h3⟩ | ⟨_, h2, _⟩
  · exact ⟨h1.trans (congrArg some h3.symm), h2⟩
  · exact absurd h h2
theorem read_bad {s : ByteArray} (h : (readC s).2.1 ≠ 0) : (readC s).1 = [] := by
  rcases rest_forget (linesA s.data.toList) cs0 0 with ⟨r', h1, h2, h3⟩ | ⟨_, _, h3⟩
  · have : (readC s).2 = (0, 0) := h2
    rw [this] at h
    exact absurd rfl h
  · exact h3

/-! ### the text's lines -/
def headLine (nm p : List UInt8) : List UInt8 := nm ++ 58 :: (if p = [] then [] else 32 :: p)
def fieldLines (f : S50) : List (List UInt8) := match pieces f.f1.data.toList with
  | [] => []
  | p :: ps => headLine f.f0.data.toList p :: ps.map (32 :: ·)
def stanzaLines (i : Nat) (s : S41) : List (List UInt8) := (if 0 < i then [[]] else []) ++ s.f1.flatMap fieldLines
def stanzasLines : Nat → List S41 → List (List UInt8)
  | _, [] => []
  | i, s :: r => stanzaLines i s ++ stanzasLines (i + 1) r
theorem piecesW_tail (ps : List (List UInt8)) : ∀ i, 0 < i → (∀ p ∈ ps, p ≠ []) → piecesW i ps = ps.flatMap (fun p => 10 :: 32 :: p) := by
  induction ps with
  | nil => intro i _ _; rfl
  | cons p ps ih =>
    intro i hi h
    rw [piecesW, ih (i + 1) (by omega) (fun q hq => h q (List.mem_cons_of_mem _ hq))]
    unfold pieceW
    rw [if_pos hi, if_neg (h p List.mem_cons_self)]
    simp
theorem fieldW_lines (f : S50) (h : piecesOk (pieces f.f1.data.toList) = true) : fieldW f = unlines (fieldLines f) := by
  unfold fieldW fieldLines
  cases hp : pieces f.f1.data.toList with
  | nil => exact absurd hp (R.pieces_ne _)
  | cons p ps =>
    rw [hp, piecesOk, Bool.and_eq_true] at h
    have hne : ∀ q ∈ ps, q ≠ [] := fun q hq => by
      have := List.all_eq_true.1 h.2 q hq
      unfold innerP at this
      rw [Bool.and_eq_true, decide_eq_true_eq] at this
      exact this.2
    rw [piecesW, piecesW_tail ps 1 (by decide) hne]
    unfold pieceW headLine unlines
    rw [if_neg (by decide)]
    have e : ∀ ps : List (List UInt8), ps.flatMap (fun p => 10 :: 32 :: p) ++ [10] = 10 :: (ps.map (32 :: ·)).flatMap (· ++ [10]) := by
      intro ps
      induction ps with
      | nil => rfl
      | cons q ps ih => simp only [List.flatMap_cons, List.map_cons, List.append_assoc, ih]; simp
    simp only [List.flatMap_cons, List.nil_append, List.append_assoc, e]
    simp
theorem fieldsW_lines : ∀ fs : List S50, (∀ f ∈ fs, piecesOk (pieces f.f1.data.toList) = true) → fieldsW fs = unlines (fs.flatMap fieldLines)
  | [], _ => rfl
  | f :: fs, h => by
    have e : fieldsW (f :: fs) = fieldW f ++ fieldsW fs := by unfold fieldsW; rfl
    rw [e, List.flatMap_cons, unlines_append, fieldW_lines f (h f List.mem_cons_self), fieldsW_lines fs (fun x hx => h x (List.mem_cons_of_mem _ hx))]
theorem stanzasW_lines : ∀ (l : List S41) (i : Nat), (∀ s ∈ l, ∀ f ∈ s.f1, piecesOk (pieces f.f1.data.toList) = true) → stanzasW i l = unlines (stanzasLines i l)
  | [], _, _ => rfl
  | s :: l, i, h => by
    rw [stanzasW, stanzasLines, unlines_append, stanzasW_lines l (i + 1) (fun x hx => h x (List.mem_cons_of_mem _ hx))]
    unfold stanzaW stanzaLines
    rw [unlines_append, fieldsW_lines s.f1 (h s List.mem_cons_self)]
    by_cases hi : 0 < i
    · rw [if_pos hi, if_pos hi]; rfl
    · rw [if_neg hi, if_neg hi]; rfl

/-! ### reading the lines -/
theorem name_low {l : List UInt8} (h : nameL l = true) : l ≠ [] ∧ (∀ c ∈ l, 33 ≤ c.toNat ∧ c.toNat ≤ 126 ∧ c ≠ 58) ∧ (∀ b, l.head? = some b → b ≠ 35 ∧ b ≠ 45) := by
  cases l with
  | nil => simp [nameL] at h
  | cons b l =>
    unfold nameL at h
    rw [Bool.and_eq_true, Bool.and_eq_true, bne_iff_ne, bne_iff_ne] at h
    refine ⟨by simp, fun c hc => ?_, fun c hc => ?_⟩
    · have := List.all_eq_true.1 h.2 c hc
      unfold nameB at this
      rw [Bool.and_eq_true, Bool.and_eq_true, decide_eq_true_eq, decide_eq_true_eq, bne_iff_ne] at this
      exact ⟨this.1.1, this.1.2, this.2⟩
    · obtain rfl : b = c := by simpa using hc
      exact h.1
theorem name_fair (f : Bool) {l : List UInt8} (h : nameL l = true) : fairL f l = true := by
  have hn := (name_low h).2.1
  rw [fair_ascii f l (fun c hc => by have := hn c hc; omega)]
  refine List.all_eq_true.2 fun c hc => ?_
  have := hn c hc
  unfold okC
  rw [decide_eq_true (by omega)]
  simp
  intro e
  subst e
  exact absurd this.2.1 (by decide)
theorem name_noFeed {l : List UInt8} (h : nameL l = true) : noFeed l := fun c hc e => by
  have := (name_low h).2.1 c hc
  subst e
  exact absurd this.1 (by decide)
theorem value_parts {l : List UInt8} (h : valueL l = true) : fairL true l = true ∧ ∃ p ps, pieces l = p :: ps ∧ tight p ∧ (∀ q ∈ ps, tight q ∧ q ≠ []) := by
  unfold valueL at h
  rw [Bool.and_eq_true] at h
  refine ⟨h.1, ?_⟩
  cases hp : pieces l with
  | nil => exact absurd hp (R.pieces_ne l)
  | cons p ps =>
    have h2 := h.2
    rw [hp, piecesOk, Bool.and_eq_true] at h2
    refine ⟨p, ps, rfl, (tight_iff p).1 (by have := h2.1; unfold trimmed at this; simpa using this), fun q hq => ?_⟩
    have := List.all_eq_true.1 h2.2 q hq
    unfold innerP trimmed at this
    rw [Bool.and_eq_true, decide_eq_true_eq, decide_eq_true_eq] at this
    exact ⟨(tight_iff q).1 this.1, this.2⟩
/-- The pieces of a fair value are fair lines. -/
theorem join_fair (ps : List (List UInt8)) : ∀ p, fairL true (joinL (p :: ps)) = (fairL true p && ps.all (fairL true)) := by
  induction ps with
  | nil => intro p; simp [joinL]
  | cons q ps ih =>
    intro p
    have e : joinL (p :: q :: ps) = p ++ 10 :: joinL (q :: ps) := by simp [joinL]
    rw [e, fair_at true p 10 _ (by decide) (by decide), ih q, List.all_cons]
theorem hasPrefix_one (b c : UInt8) (l : List UInt8) : hasPrefix (b :: l) [c] = (c == b) := by
  unfold hasPrefix
  simp [List.isPrefixOf]
theorem step_head (s : FS) (f : S50) (p : List UInt8) (hn : nameL f.f0.data.toList = true) (hp : tight p) (hf : fairL false p = true) (hh : hasF s.2 f.f0 = false) : stepF s (headLine f.f0.data.toList p) = some (s.1, s.2 ++ [⟨f.f0, mkB p⟩]) := by
  have hnl := name_low hn
  obtain ⟨b, q, hb⟩ := List.exists_cons_of_ne_nil hnl.1
  have hb1 := hnl.2.1 b (by rw [hb]; exact List.mem_cons_self)
  have hb2 := hnl.2.2 b (by rw [hb]; rfl)
  have hbb : blankB b = false := by
    cases hx : blankB b with
    | false => rfl
    | true => rcases (blankB_iff b).1 hx with rfl | rfl <;> exact absurd hb1.1 (by decide)
  have h58 : okC false 58 = true := by decide
  have htail : fairL false (if p = [] then [] else 32 :: p) = true := by
    split
    · exact fair_nil _
    · rw [fair_cons false 32 p (by decide) (by decide)]; exact hf
  have hfair : fairL false (headLine f.f0.data.toList p) = true := by
    unfold headLine
    rw [fair_at false _ 58 _ (by decide) h58, name_fair false hn, htail]
    rfl
  have hcut : cut (headLine f.f0.data.toList p) [58] = (f.f0.data.toList, (if p = [] then [] else 32 :: p), true) := cut_byte 58 _ _ (fun x hx => (hnl.2.1 x hx).2.2)
  have hhead : headLine f.f0.data.toList p = b :: (q ++ 58 :: (if p = [] then [] else 32 :: p)) := by unfold headLine; rw [hb]; rfl
  have htr : trimC (if p = [] then [] else 32 :: p) = p := by
    split
    · rename_i e; rw [e]; rfl
    · exact trim_blank (by decide) hp
  have hne : trimC (headLine f.f0.data.toList p) ≠ [] := by
    intro e
    obtain ⟨x, y, hxy, hx, hy⟩ := trim_parts (headLine f.f0.data.toList p)
    rw [e, List.append_nil] at hxy
    have hmem : b ∈ x ++ y := by rw [← hxy, hhead]; exact List.mem_cons_self
    rcases List.mem_append.1 hmem with h | h
    · exact absurd (hx b h) (by rw [hbb]; decide)
    · exact absurd (hy b h) (by rw [hbb]; decide)
  have hpre : ∀ c : UInt8, c ≠ b → hasPrefix (headLine f.f0.data.toList p) [c] = false := fun c hc => by
    rw [hhead, hasPrefix_one]
    exact beq_eq_false_iff_ne.2 hc
  unfold stepF fieldC
  rw [if_neg (by rw [hfair]; decide), if_neg (by rw [hpre 35 hb2.1.symm]; decide), if_neg hne, hpre 32 (fun e => by rw [← e] at hbb; exact absurd hbb (by decide)), hpre 9 (fun e => by rw [← e] at hbb; exact absurd hbb (by decide)), if_neg (by decide), hcut]
  simp only
  rw [if_neg (by rw [hn]; decide), mkB_data, if_neg (by rw [hh]; decide), htr]
theorem step_more (s : FS) (p : List UInt8) (hs : s.2 ≠ []) (hp : tight p) (hne : p ≠ []) (hf : fairL false p = true) : stepF s (32 :: p) = some (s.1, moreC s.2 p) := by
  have htr := trim_blank (b := 32) (by decide) hp
  unfold stepF
  rw [if_neg (by rw [fair_cons false 32 p (by decide) (by decide), hf]; decide), if_neg (by rw [hasPrefix_one]; decide), htr, if_neg hne, if_pos (by rw [hasPrefix_one]; rfl), if_neg hs]
theorem more_snoc (fs : List S50) (nm : ByteArray) (v p : List UInt8) : moreC (fs ++ [⟨nm, mkB v⟩]) p = fs ++ [⟨nm, mkB (v ++ 10 :: p)⟩] := by
  have e : (fs ++ [(⟨nm, mkB v⟩ : S50)]).getD ((fs ++ [(⟨nm, mkB v⟩ : S50)]).length - 1) z50 = ⟨nm, mkB v⟩ := by
    rw [List.getD_eq_getElem?_getD, List.length_append, List.length_cons, List.length_nil, Nat.add_sub_cancel, List.getElem?_append_right (Nat.le_refl _)]
    simp
  unfold moreC
  rw [e, List.length_append, List.length_cons, List.length_nil, Nat.add_sub_cancel, List.set_append_right _ _ (Nat.le_refl _)]
  simp only [Nat.sub_self, List.set_cons_zero]
  have e2 : mkB v ++ ((⟨#[10]⟩ : ByteArray) ++ mkB p) = mkB (v ++ 10 :: p) := by
    apply ByteArray.ext
    simp [mkB]
  rw [e2]
theorem rest_mores (nm : ByteArray) (r : List (List UInt8)) (ps : List (List UInt8)) : ∀ (out : List (List S50)) (fs : List S50) (v : List UInt8), (∀ q ∈ ps, tight q ∧ q ≠ []) → ps.all (fairL false) = true →
    restF (out, fs ++ [⟨nm, mkB v⟩]) (ps.map (32 :: ·) ++ r) = restF (out, fs ++ [⟨nm, mkB (v ++ ps.flatMap (10 :: ·))⟩]) r := by
  induction ps with
  | nil => intro out fs v _ _; simp
  | cons p ps ih =>
    intro out fs v h hf
    rw [List.all_cons, Bool.and_eq_true] at hf
    have hp := h p List.mem_cons_self
    rw [List.map_cons, List.cons_append, restF, step_more _ p (by simp) hp.1 hp.2 hf.1]
    simp only
    rw [more_snoc, ih out fs (v ++ 10 :: p) (fun q hq => h q (List.mem_cons_of_mem _ hq)) hf.2, List.flatMap_cons]
    simp
theorem rest_field (out : List (List S50)) (fs : List S50) (f : S50) (r : List (List UInt8)) (h : fieldOk fs f = true) : restF (out, fs) (fieldLines f ++ r) = restF (out, fs ++ [f]) r := by
  unfold fieldOk at h
  rw [Bool.and_eq_true, Bool.and_eq_true, Bool.not_eq_true'] at h
  obtain ⟨⟨hn, hv⟩, hh⟩ := h
  obtain ⟨hfair, p, ps, hp, ht, hts⟩ := value_parts hv
  have hj := join_pieces f.f1.data.toList
  rw [hp] at hj
  rw [← hj, join_fair, Bool.and_eq_true] at hfair
  have hnf := pieces_noFeed f.f1.data.toList
  rw [hp] at hnf
  have hpf : fairL false p = true := by rw [← fair_line (hnf p List.mem_cons_self)]; exact hfair.1
  have hpsf : ps.all (fairL false) = true := List.all_eq_true.2 fun q hq => by
    rw [← fair_line (hnf q (List.mem_cons_of_mem _ hq))]
    exact List.all_eq_true.1 hfair.2 q hq
  unfold fieldLines
  rw [hp]
  simp only
  rw [List.cons_append, restF, step_head (out, fs) f p hn ht hpf hh]
  simp only
  rw [rest_mores f.f0 r ps out fs p hts hpsf]
  have e : mkB (p ++ ps.flatMap (10 :: ·)) = f.f1 := by
    have : p ++ ps.flatMap (10 :: ·) = f.f1.data.toList := hj
    rw [this, mkB_data]
  rw [e]
theorem rest_fields (out : List (List S50)) (r : List (List UInt8)) : ∀ (fs2 fs : List S50), fieldsOk fs fs2 = true → restF (out, fs) (fs2.flatMap fieldLines ++ r) = restF (out, fs ++ fs2) r
  | [], fs, _ => by simp
  | f :: fs2, fs, h => by
    rw [fieldsOk, Bool.and_eq_true] at h
    rw [List.flatMap_cons, List.append_assoc, rest_field out fs f _ h.1, rest_fields out r fs2 (fs ++ [f]) h.2]
    simp
theorem step_nil (s : FS) : stepF s [] = some (gapF s) := by
  unfold stepF
  rw [if_neg (by rw [fair_nil]; decide), if_neg (by decide), if_pos (show trimC [] = [] from rfl)]
theorem gapF_some {out : List (List S50)} {fs : List S50} (h : fs ≠ []) : gapF (out, fs) = (out ++ [fs], []) := by unfold gapF; rw [if_neg h]
theorem stanzaOk_parts {s : S41} (h : stanzaOk s = true) : s.f1 ≠ [] ∧ fieldsOk [] s.f1 = true := by
  unfold stanzaOk at h
  rw [Bool.and_eq_true, decide_eq_true_eq] at h
  exact h
/-- The first stanza's lines, then the others': each other one begins with an empty line. -/
theorem rest_later : ∀ (l : List S41) (i : Nat) (out : List (List S50)) (fs : List S50), 0 < i → fs ≠ [] → formedC l = true → restF (out, fs) (stanzasLines i l) = some (out ++ [fs] ++ l.map (·.f1))
  | [], i, out, fs, _, hfs, _ => by
    rw [stanzasLines, restF, gapF_some hfs]
    simp
  | s :: l, i, out, fs, hi, hfs, h => by
    have e : formedC (s :: l) = (stanzaOk s && formedC l) := rfl
    rw [e, Bool.and_eq_true] at h
    obtain ⟨h1, h2⟩ := stanzaOk_parts h.1
    rw [stanzasLines, stanzaLines, if_pos hi, List.append_assoc, List.cons_append, List.nil_append, restF, step_nil, gapF_some hfs]
    simp only
    rw [rest_fields (out ++ [fs]) _ s.f1 [] h2, List.nil_append, rest_later l (i + 1) (out ++ [fs]) s.f1 (by omega) h1 h.2]
    simp
theorem rest_stanzas (l : List S41) (h : formedC l = true) : restF ([], []) (stanzasLines 0 l) = some (l.map (·.f1)) := by
  cases l with
  | nil => rfl
  | cons s l =>
    have e : formedC (s :: l) = (stanzaOk s && formedC l) := rfl
    rw [e, Bool.and_eq_true] at h
    obtain ⟨h1, h2⟩ := stanzaOk_parts h.1
    rw [stanzasLines, stanzaLines, if_neg (by decide), List.nil_append, rest_fields [] _ s.f1 [] h2, List.nil_append, rest_later l 1 [] s.f1 (by decide) h1 h.2]
    simp
theorem fieldsOk_mem : ∀ (fs2 fs : List S50), fieldsOk fs fs2 = true → ∀ f ∈ fs2, nameL f.f0.data.toList = true ∧ valueL f.f1.data.toList = true
  | f :: fs2, fs, h, x, hx => by
    rw [fieldsOk, Bool.and_eq_true] at h
    rcases List.mem_cons.1 hx with rfl | hx
    · have := h.1
      unfold fieldOk at this
      rw [Bool.and_eq_true, Bool.and_eq_true] at this
      exact this.1
    · exact fieldsOk_mem fs2 _ h.2 x hx
theorem formed_mem {l : List S41} (h : formedC l = true) : ∀ s ∈ l, ∀ f ∈ s.f1, nameL f.f0.data.toList = true ∧ valueL f.f1.data.toList = true := fun s hs f hf =>
  fieldsOk_mem s.f1 [] (stanzaOk_parts (List.all_eq_true.1 h s hs)).2 f hf
theorem fieldLines_noFeed {f : S50} (h1 : nameL f.f0.data.toList = true) (h2 : valueL f.f1.data.toList = true) : ∀ a ∈ fieldLines f, noFeed a := by
  have hnf := pieces_noFeed f.f1.data.toList
  unfold fieldLines
  cases hp : pieces f.f1.data.toList with
  | nil => intro a ha; cases ha
  | cons p ps =>
    rw [hp] at hnf
    intro a ha
    rcases List.mem_cons.1 ha with rfl | ha
    · unfold headLine
      intro c hc
      rcases List.mem_append.1 hc with hc | hc
      · exact name_noFeed h1 c hc
      · rcases List.mem_cons.1 hc with rfl | hc
        · decide
        · split at hc
          · cases hc
          · rcases List.mem_cons.1 hc with rfl | hc
            · decide
            · exact hnf p List.mem_cons_self c hc
    · obtain ⟨q, hq, rfl⟩ := List.mem_map.1 ha
      intro c hc
      rcases List.mem_cons.1 hc with rfl | hc
      · decide
      · exact hnf q (List.mem_cons_of_mem _ hq) c hc
theorem stanzasLines_noFeed : ∀ (l : List S41) (i : Nat), (∀ s ∈ l, ∀ f ∈ s.f1, nameL f.f0.data.toList = true ∧ valueL f.f1.data.toList = true) → ∀ a ∈ stanzasLines i l, noFeed a
  | [], _, _, a, ha => by cases ha
  | s :: l, i, h, a, ha => by
    rw [stanzasLines] at ha
    rcases List.mem_append.1 ha with ha | ha
    · unfold stanzaLines at ha
      rcases List.mem_append.1 ha with ha | ha
      · split at ha
        · obtain rfl : a = [] := by simpa using ha
          intro c hc; cases hc
        · cases ha
      · obtain ⟨f, hf, ha⟩ := List.mem_flatMap.1 ha
        have := h s List.mem_cons_self f hf
        exact fieldLines_noFeed this.1 this.2 a ha
    · exact stanzasLines_noFeed l (i + 1) (fun x hx => h x (List.mem_cons_of_mem _ hx)) a ha
theorem value_pieces {l : List UInt8} (h : valueL l = true) : piecesOk (pieces l) = true := by
  unfold valueL at h
  rw [Bool.and_eq_true] at h
  exact h.2
/-- The text's lines are those. -/
theorem text_lines (l : List S41) (h : formedC l = true) : stanzasW 0 l = unlines (stanzasLines 0 l) ∧ linesA (stanzasW 0 l) = stanzasLines 0 l := by
  have hm := formed_mem h
  have e := stanzasW_lines l 0 (fun s hs f hf => value_pieces (hm s hs f hf).2)
  exact ⟨e, by rw [e, lines_unlines _ (stanzasLines_noFeed l 0 hm)]⟩
theorem read_write (l : List S41) (h : formedC l = true) : ∃ l', readC (mkB (stanzasW 0 l)) = (l', 0, 0) ∧ l'.map (·.f1) = l.map (·.f1) :=
  read_of_rest (s := mkB (stanzasW 0 l)) (by
    have e : linesA (mkB (stanzasW 0 l)).data.toList = stanzasLines 0 l := (text_lines l h).2
    rw [e]
    exact rest_stanzas l h)
end Go.Proofs.YtbaiglikmneicaaDoor.P
end
