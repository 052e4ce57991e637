/- Blanks at the ends, cuts at a byte, lines and pieces: plain laws on lists of bytes. No conditions. -/
import Derived.Test.YtbaiglikmneicaaDoorELibC
set_option linter.unusedVariables false
set_option linter.unusedSimpArgs false
namespace Go.Proofs.YtbaiglikmneicaaDoor.P
open Go.Lib
open Go.Proofs.YtbaiglikmneicaaDoor.R (mkB mkB_size mkB_data pieces linesA linesA_nil linesA_cons cut_run cut_cons)
open Go.Proofs.YtbaiglikmneicaaDoor.C (fairL okC fair_at fair_nil)

def blankB (b : UInt8) : Bool := blanksC.contains b
theorem blankB_iff (b : UInt8) : blankB b = true ↔ b = 32 ∨ b = 9 := by unfold blankB blanksC; simp
theorem blankB_low {b : UInt8} (h : blankB b = true) : b.toNat < 128 := by rcases (blankB_iff b).1 h with rfl | rfl <;> decide
theorem blankB_ok {b : UInt8} (f : Bool) (h : blankB b = true) : okC f b = true := by rcases (blankB_iff b).1 h with rfl | rfl <;> cases f <;> decide
def tight (p : List UInt8) : Prop := (∀ b, p.head? = some b → blankB b = false) ∧ (∀ b, p.getLast? = some b → blankB b = false)
theorem drop_head {q : UInt8 → Bool} : ∀ {l : List UInt8}, (∀ b, l.head? = some b → q b = false) → l.dropWhile q = l
  | [], _ => rfl
  | b :: l, h => by rw [List.dropWhile_cons_of_neg (by rw [h b rfl]; decide)]
theorem head_drop (q : UInt8 → Bool) : ∀ (l : List UInt8) (b : UInt8), (l.dropWhile q).head? = some b → q b = false
  | [], b, h => by simp at h
  | c :: l, b, h => by
    cases hq : q c with
    | true => rw [List.dropWhile_cons_of_pos hq] at h; exact head_drop q l b h
    | false =>
      rw [List.dropWhile_cons_of_neg (by rw [hq]; decide)] at h
      obtain rfl : c = b := by simpa using h
      exact hq
theorem last_drop (q : UInt8 → Bool) : ∀ (l : List UInt8) (b : UInt8), (l.dropWhile q).getLast? = some b → l.getLast? = some b
  | [], b, h => by simp at h
  | c :: l, b, h => by
    cases hq : q c with
    | true =>
      rw [List.dropWhile_cons_of_pos hq] at h
      have := last_drop q l b h
      cases l with
      | nil => simp at this
      | cons d l => rw [List.getLast?_cons_cons]; exact this
    | false =>
      rw [List.dropWhile_cons_of_neg (by rw [hq]; decide)] at h
      exact h
theorem trimC_eq (l : List UInt8) : trimC l = (l.reverse.dropWhile blankB).reverse.dropWhile blankB := rfl
theorem trim_tight (l : List UInt8) : tight (trimC l) := by
  rw [trimC_eq]
  refine ⟨fun b h => head_drop _ _ b h, fun b h => ?_⟩
  have h1 := last_drop _ _ b h
  rw [List.getLast?_reverse] at h1
  exact head_drop _ _ b h1
theorem trim_of_tight {p : List UInt8} (h : tight p) : trimC p = p := by
  rw [trimC_eq, drop_head (l := p.reverse) (fun b hb => h.2 b (by rw [← List.head?_reverse]; exact hb)), List.reverse_reverse, drop_head h.1]
theorem tight_iff (p : List UInt8) : trimC p = p ↔ tight p := ⟨fun h => h ▸ trim_tight p, trim_of_tight⟩
theorem trim_blank {b : UInt8} (hb : blankB b = true) {p : List UInt8} (h : tight p) : trimC (b :: p) = p := by
  by_cases hp : p = []
  · subst hp
    rw [trimC_eq]
    simp [hb]
  · have e : (b :: p).reverse.dropWhile blankB = (b :: p).reverse := drop_head (fun c hc => h.2 c (by
      rw [List.head?_reverse] at hc
      obtain ⟨d, q, rfl⟩ := List.exists_cons_of_ne_nil hp
      rw [List.getLast?_cons_cons] at hc
      exact hc))
    rw [trimC_eq, e, List.reverse_reverse, List.dropWhile_cons_of_pos hb, drop_head h.1]
theorem mem_take (q : UInt8 → Bool) : ∀ (l : List UInt8) (b : UInt8), b ∈ l.takeWhile q → q b = true
  | [], b, h => by cases h
  | c :: l, b, h => by
    cases hq : q c with
    | true =>
      rw [List.takeWhile_cons_of_pos hq] at h
      rcases List.mem_cons.1 h with rfl | h
      · exact hq
      · exact mem_take q l b h
    | false => rw [List.takeWhile_cons_of_neg (by rw [hq]; decide)] at h; cases h
theorem trim_parts (l : List UInt8) : ∃ x y, l = x ++ trimC l ++ y ∧ (∀ b ∈ x, blankB b = true) ∧ (∀ b ∈ y, blankB b = true) := by
  have h1 := List.takeWhile_append_dropWhile (p := blankB) (l := l.reverse)
  have h2 := List.takeWhile_append_dropWhile (p := blankB) (l := (l.reverse.dropWhile blankB).reverse)
  refine ⟨(l.reverse.dropWhile blankB).reverse.takeWhile blankB, (l.reverse.takeWhile blankB).reverse, ?_, fun b hb => ?_, fun b hb => ?_⟩
  · rw [trimC_eq, h2, ← List.reverse_append, h1, List.reverse_reverse]
  · exact mem_take _ _ _ hb
  · exact mem_take _ _ _ (List.mem_reverse.1 hb)
theorem trim_mem {l : List UInt8} {b : UInt8} (h : b ∈ trimC l) : b ∈ l := by
  obtain ⟨x, y, e, _, _⟩ := trim_parts l
  rw [e]
  simp [h]
theorem fair_cons (f : Bool) (b : UInt8) (l : List UInt8) (hb : b.toNat < 128) (hk : okC f b = true) : fairL f (b :: l) = fairL f l := by
  have := fair_at f [] b l hb hk
  rw [fair_nil, Bool.true_and] at this
  exact this
theorem fair_left (f : Bool) : ∀ (x l : List UInt8), (∀ b ∈ x, blankB b = true) → fairL f (x ++ l) = fairL f l
  | [], _, _ => rfl
  | b :: x, l, h => by
    have hb := h b List.mem_cons_self
    rw [List.cons_append, fair_cons f b _ (blankB_low hb) (blankB_ok f hb)]
    exact fair_left f x l (fun c hc => h c (List.mem_cons_of_mem _ hc))
theorem fair_right (f : Bool) : ∀ (y l : List UInt8), (∀ b ∈ y, blankB b = true) → fairL f (l ++ y) = fairL f l
  | [], l, _ => by rw [List.append_nil]
  | b :: y, l, h => by
    have hb := h b List.mem_cons_self
    have hy := fair_left f y [] (fun c hc => h c (List.mem_cons_of_mem _ hc))
    rw [List.append_nil, fair_nil] at hy
    rw [fair_at f l b y (blankB_low hb) (blankB_ok f hb), hy, Bool.and_true]
theorem fair_trim (f : Bool) (l : List UInt8) : fairL f (trimC l) = fairL f l := by
  obtain ⟨x, y, e, hx, hy⟩ := trim_parts l
  conv => rhs; rw [e]
  rw [fair_right f y _ hy, fair_left f x _ hx]

/-! ### a cut at a byte -/
theorem index_byte (c : UInt8) (r : List UInt8) : ∀ a : List UInt8, (∀ x ∈ a, x ≠ c) → index (a ++ c :: r) [c] = (a.length : Int)
  | [], _ => by
    show (if ([c] : List UInt8).isPrefixOf (c :: r) then _ else _) = _
    rw [if_pos (by simp [List.isPrefixOf])]; rfl
  | b :: a, h => by
    have hb := h b List.mem_cons_self
    have ih := index_byte c r a (fun x hx => h x (List.mem_cons_of_mem _ hx))
    show (if ([c] : List UInt8).isPrefixOf (b :: (a ++ c :: r)) then _ else if index (a ++ c :: r) [c] == -1 then _ else index (a ++ c :: r) [c] + 1) = _
    rw [if_neg (by simp [List.isPrefixOf]; exact fun e => hb e.symm), ih, if_neg (by simp only [beq_iff_eq]; omega), List.length_cons]
    omega
theorem cut_byte (c : UInt8) (a r : List UInt8) (h : ∀ x ∈ a, x ≠ c) : cut (a ++ c :: r) [c] = (a, r, true) := by
  unfold cut
  rw [index_byte c r a h, if_pos (by omega)]
  simp only [Int.toNat_natCast, List.length_cons, List.length_nil]
  rw [List.take_left, show a ++ c :: r = (a ++ [c]) ++ r by simp, List.drop_left' (by simp)]
theorem index_hit (c : UInt8) : ∀ l : List UInt8, 0 ≤ index l [c] → l = l.take (index l [c]).toNat ++ c :: l.drop ((index l [c]).toNat + 1)
  | [], h => by simp [index] at h
  | b :: l, h => by
    have e : index (b :: l) [c] = if ([c] : List UInt8).isPrefixOf (b :: l) then 0 else if index l [c] == -1 then -1 else index l [c] + 1 := rfl
    by_cases hp : ([c] : List UInt8).isPrefixOf (b :: l) = true
    · rw [if_pos hp] at e
      rw [e]
      simp [List.isPrefixOf] at hp
      simp [hp]
    · rw [if_neg hp] at e
      by_cases hm : (index l [c] == -1) = true
      · rw [if_pos hm] at e
        rw [e] at h
        exact absurd h (by decide)
      · rw [if_neg hm] at e
        have hge := index_ge l [c]
        have hne : index l [c] ≠ -1 := fun he => hm (beq_iff_eq.2 he)
        obtain ⟨i, hi⟩ : ∃ i : Nat, index l [c] = i := ⟨(index l [c]).toNat, by omega⟩
        have ih := index_hit c l (by omega)
        rw [hi, Int.toNat_natCast] at ih
        rw [e, hi, show ((i : Int) + 1).toNat = i + 1 by omega, List.take_succ_cons, List.drop_succ_cons, List.cons_append, ← ih]
theorem cut_join (c : UInt8) (l a r : List UInt8) (h : cut l [c] = (a, r, true)) : l = a ++ c :: r := by
  unfold cut at h
  split at h
  · rename_i hi
    have e := index_hit c l hi
    simp only [Prod.mk.injEq, and_true, List.length_cons, List.length_nil] at h
    rw [← h.1, ← h.2]
    exact e
  · simp at h

/-! ### lines and pieces -/
def unlines (ls : List (List UInt8)) : List UInt8 := ls.flatMap (· ++ [10])
def noFeed (l : List UInt8) : Prop := ∀ c ∈ l, c ≠ 10
theorem lines_cons (a r : List UInt8) (h : noFeed a) : linesA (a ++ 10 :: r) = a :: linesA r := by
  rw [linesA_cons _ (by simp), cut_byte 10 a r h]
theorem lines_unlines : ∀ ls : List (List UInt8), (∀ a ∈ ls, noFeed a) → linesA (unlines ls) = ls
  | [], _ => rfl
  | a :: ls, h => by
    have e : unlines (a :: ls) = a ++ 10 :: unlines ls := by unfold unlines; simp
    rw [e, lines_cons a _ (h a List.mem_cons_self), lines_unlines ls (fun x hx => h x (List.mem_cons_of_mem _ hx))]
theorem unlines_append (a b : List (List UInt8)) : unlines (a ++ b) = unlines a ++ unlines b := by unfold unlines; rw [List.flatMap_append]
theorem lines_noFeed (n : Nat) : ∀ l : List UInt8, l.length ≤ n → ∀ a ∈ linesA l, noFeed a := by
  induction n with
  | zero =>
    intro l h a ha
    have : l = [] := List.eq_nil_of_length_eq_zero (by omega)
    subst this
    rw [linesA_nil] at ha
    cases ha
  | succ n ih =>
    intro l h a ha
    by_cases hl : l = []
    · subst hl; rw [linesA_nil] at ha; cases ha
    · rw [linesA_cons l hl] at ha
      have hc := R.cut_len l hl
      rcases List.mem_cons.1 ha with rfl | ha
      · rcases R.first10 l with hno | ⟨k, h1, h2⟩
        · rw [R.cut_no l hno]
          intro c hc e
          obtain ⟨i, hi, hx⟩ := List.getElem_of_mem hc
          exact hno i (by rw [List.getElem?_eq_getElem hi, hx, e])
        · rw [R.cut_at l k h1 h2]
          intro c hc e
          obtain ⟨i, hi, hx⟩ := List.getElem_of_mem hc
          rw [List.length_take] at hi
          rw [List.getElem_take] at hx
          exact h1 i (by omega) (by rw [List.getElem?_eq_getElem (by omega), hx, e])
      · exact ih _ (by omega) a ha
def joinL : List (List UInt8) → List UInt8
  | [] => []
  | p :: ps => p ++ ps.flatMap (10 :: ·)
theorem join_pieces : ∀ l : List UInt8, joinL (pieces l) = l
  | [] => rfl
  | b :: l => by
    have ih := join_pieces l
    rw [pieces]
    by_cases hb : b = 10
    · rw [if_pos hb, hb]
      cases h : pieces l with
      | nil => exact absurd h (R.pieces_ne l)
      | cons p ps => rw [h] at ih; simp only [joinL, List.nil_append, List.flatMap_cons] at ih ⊢; rw [← ih]; simp
    · rw [if_neg hb]
      cases h : pieces l with
      | nil => exact absurd h (R.pieces_ne l)
      | cons p ps => rw [h] at ih; simp only [joinL] at ih ⊢; rw [← ih]; simp
theorem pieces_noFeed : ∀ l : List UInt8, ∀ p ∈ pieces l, noFeed p
  | [], p, hp => by simp [pieces] at hp; subst hp; intro c hc; cases hc
  | b :: l, p, hp => by
    have ih := pieces_noFeed l
    rw [pieces] at hp
    by_cases hb : b = 10
    · rw [if_pos hb] at hp
      rcases List.mem_cons.1 hp with rfl | hp
      · intro c hc; cases hc
      · exact ih p hp
    · rw [if_neg hb] at hp
      cases h : pieces l with
      | nil => exact absurd h (R.pieces_ne l)
      | cons q qs =>
        rw [h] at hp
        rcases List.mem_cons.1 hp with rfl | hp
        · intro c hc
          rcases List.mem_cons.1 hc with rfl | hc
          · exact hb
          · exact ih q (by rw [h]; exact List.mem_cons_self) c hc
        · exact ih p (by rw [h]; exact List.mem_cons_of_mem _ hp)
theorem pieces_line : ∀ l : List UInt8, noFeed l → pieces l = [l]
  | [], _ => rfl
  | b :: l, h => by
    rw [pieces, if_neg (h b List.mem_cons_self), pieces_line l (fun c hc => h c (List.mem_cons_of_mem _ hc))]
theorem pieces_snoc (t : List UInt8) (ht : noFeed t) : ∀ l : List UInt8, pieces (l ++ 10 :: t) = pieces l ++ [t]
  | [] => by
    show pieces (10 :: t) = [[], t]
    rw [show pieces (10 :: t) = [] :: pieces t from by rw [pieces, if_pos rfl], pieces_line t ht]
  | b :: l => by
    have ih := pieces_snoc t ht l
    rw [List.cons_append, pieces, pieces, ih]
    by_cases hb : b = 10
    · rw [if_pos hb, if_pos hb]; rfl
    · rw [if_neg hb, if_neg hb]
      cases h : pieces l with
      | nil => exact absurd h (R.pieces_ne l)
      | cons q qs => rfl
end Go.Proofs.YtbaiglikmneicaaDoor.P
