/- The pure laws ControlBack and ControlAgain. No conditions. -/
import Derived.Test.YtbaiglikmneicaaDoorRoundC
import Derived.Test.YtbaiglikmneicaaDoorSameC
import Derived.Test.YtbaiglikmneicaaDoorPureNumC
import Derived.Test.YtbaiglikmneicaaDoorPx11
import Derived.Test.YtbaiglikmneicaaDoorArgs
set_option linter.unusedVariables false
set_option linter.unusedSimpArgs false
namespace Go.Proofs.YtbaiglikmneicaaDoor.P
open Go.RowKit Go.Lib Go.Proofs.YtbaiglikmneicaaDoorW.PrintWords Go.Proofs.YtbaiglikmneicaaDoorW.PrintLast Go.Proofs.YtbaiglikmneicaaDoorW.PrintMore
open Go.Proofs.YtbaiglikmneicaaDoor.R (mkB mkB_size mkB_data pieces linesA)
open Go.Proofs.YtbaiglikmneicaaDoor.C (fairL okC fair_at fair_nil fair_feeds)

/-! ### sizes -/
def massF (fs : List S50) : Nat := Args.massL (fun f : S50 => f.f0.size + f.f1.size + 1) fs
def massS (l : List S41) : Nat := Args.massL (fun s : S41 => massF s.f1 + 1) l
theorem massL_app {α : Type} (m : α → Nat) : ∀ a b : List α, Args.massL m (a ++ b) = Args.massL m a + Args.massL m b
  | [], b => by simp [Args.massL]
  | x :: a, b => by simp only [List.cons_append, Args.massL, massL_app m a b]; omega
theorem massL_take {α : Type} (m : α → Nat) (xs : List α) (n : Nat) : Args.massL m (xs.take n) ≤ Args.massL m xs := by
  conv => rhs; rw [← List.take_append_drop n xs]
  rw [massL_app]
  omega
theorem few_mass : ∀ l : List S41, massS (fewL l) ≤ massS l
  | [] => Nat.le_refl _
  | s :: l => by
    have h1 := massL_take (fun f : S50 => f.f0.size + f.f1.size + 1) s.f1 2000
    have h2 := few_mass l
    have e1 : massS (s :: l) = (massF s.f1 + 1) + massS l := rfl
    have e2 : massS (fewL (s :: l)) = (massF (s.f1.take 2000) + 1) + massS (fewL l) := rfl
    have h3 : massF (s.f1.take 2000) ≤ massF s.f1 := h1
    omega
theorem pieces_sum : ∀ v : List UInt8, ((pieces v).map (fun p => p.length + 2)).sum ≤ 2 * v.length + 2
  | [] => by simp [pieces]
  | b :: v => by
    have ih := pieces_sum v
    rw [pieces]
    by_cases hb : b = 10
    · rw [if_pos hb]
      simp only [List.map_cons, List.sum_cons, List.length_nil, List.length_cons]
      omega
    · rw [if_neg hb]
      cases h : pieces v with
      | nil => exact absurd h (R.pieces_ne v)
      | cons q qs =>
        rw [h] at ih
        simp only [List.map_cons, List.sum_cons, List.length_cons] at ih ⊢
        omega
theorem piecesW_sum : ∀ (P : List (List UInt8)) (i : Nat), (piecesW i P).length ≤ (P.map (fun p => p.length + 2)).sum
  | [], _ => Nat.le_refl _
  | p :: P, i => by
    have ih := piecesW_sum P (i + 1)
    have hp : (pieceW i p).length ≤ p.length + 2 := by
      unfold pieceW
      rw [List.length_append]
      split <;> split <;> simp <;> omega
    rw [piecesW, List.length_append, List.map_cons, List.sum_cons]
    omega
theorem fieldW_len (f : S50) : (fieldW f).length ≤ 4 * (f.f0.size + f.f1.size + 1) := by
  have h1 := piecesW_sum (pieces f.f1.data.toList) 0
  have h2 := pieces_sum f.f1.data.toList
  unfold fieldW
  simp only [List.length_append, List.length_cons, List.length_nil, ← size_eq] at h1 h2 ⊢
  omega
theorem fieldsW_len : ∀ fs : List S50, (fieldsW fs).length ≤ 4 * massF fs
  | [] => Nat.le_refl _
  | f :: fs => by
    have h1 := fieldW_len f
    have h2 := fieldsW_len fs
    have e : fieldsW (f :: fs) = fieldW f ++ fieldsW fs := rfl
    have e2 : massF (f :: fs) = (f.f0.size + f.f1.size + 1) + massF fs := rfl
    rw [e, e2, List.length_append]
    omega
theorem stanzasW_len : ∀ (l : List S41) (i : Nat), (stanzasW i l).length ≤ 4 * massS l
  | [], _ => Nat.le_refl _
  | s :: l, i => by
    have h1 := fieldsW_len s.f1
    have h2 := stanzasW_len l (i + 1)
    have e2 : massS (s :: l) = (massF s.f1 + 1) + massS l := rfl
    have h3 : (stanzaW i s).length ≤ 1 + (fieldsW s.f1).length := by
      unfold stanzaW
      rw [List.length_append]
      split <;> simp
    rw [stanzasW, e2, List.length_append]
    omega
theorem mass_all {l : List S41} {B : Nat} (h : massS l ≤ B) : l.length ≤ B ∧ ∀ s ∈ l, s.f1.length ≤ B ∧ ∀ f ∈ s.f1, smallF B f := by
  have h1 := Args.massL_len (m := fun s : S41 => massF s.f1 + 1) (fun _ => Nat.le_add_left _ _) l
  refine ⟨Nat.le_trans h1 h, fun s hs => ?_⟩
  have h2 := Args.massL_mem (m := fun s : S41 => massF s.f1 + 1) hs
  have h3 := Args.massL_len (m := fun f : S50 => f.f0.size + f.f1.size + 1) (fun _ => Nat.le_add_left _ _) s.f1
  have h4 : massF s.f1 + 1 ≤ massS l := h2
  have h5 : s.f1.length ≤ massF s.f1 := h3
  refine ⟨by omega, fun f hf => ?_⟩
  have h6 : f.f0.size + f.f1.size + 1 ≤ massF s.f1 := Args.massL_mem (m := fun f : S50 => f.f0.size + f.f1.size + 1) hf
  exact ⟨by omega, by omega⟩
theorem small_of {l : List S41} {B : Nat} (h : massS l ≤ B) (hB : B ≤ 4294967280) : SmallC l := by
  obtain ⟨h1, h2⟩ := mass_all h
  have h3 := stanzasW_len l 0
  exact ⟨Nat.le_trans h1 hB, fun s hs => ⟨Nat.le_trans (h2 s hs).1 hB, fun f hf => ⟨Nat.le_trans ((h2 s hs).2 f hf).1 hB, Nat.le_trans ((h2 s hs).2 f hf).2 hB⟩⟩, by omega⟩
theorem write_is {l : List S41} {B : Nat} (h : massS l ≤ B) (hB : B ≤ 4294967280) : control_Write.f l = some (writeC l) := by
  unfold control_Write.f
  rw [if_pos (small_of h hB)]
theorem read_is (s : ByteArray) (h : s.size ≤ 4294967280) : control_Read.f s = some (readC s) := by
  unfold control_Read.f
  rw [if_pos h]
theorem writeC_ok {l : List S41} (h : formedC l = true) : writeC l = (mkB (stanzasW 0 l), 0) := by unfold writeC; rw [if_pos h]
theorem writeC_no {l : List S41} (h : formedC l = false) : writeC l = (⟨#[]⟩, 1) := by unfold writeC; rw [if_neg (by rw [h]; decide)]

theorem controlBack_pure (l : List S41) (hb : massS l ≤ 1048576) : ∃ k, depotlaw21_ControlBack.f k l = some true := by
  have hm : massS (fewL l) ≤ 1048576 := Nat.le_trans (few_mass l) hb
  have hl := mass_all hb
  obtain ⟨x, hx⟩ : ∃ x, fewL l = x := ⟨_, rfl⟩
  have hfew : ∀ k, l.length < k → depotlaw21_few.f k l = some x := fun k hk => by rw [← hx]; exact few_is l (by omega) k hk
  rw [hx] at hm
  have ha := mass_all hm
  obtain ⟨k, hk⟩ : ∃ k, l.length + x.length * (1048576 + 4) + 1048576 + 8 < k := ⟨_, Nat.lt_succ_self _⟩
  have hmul : x.length ≤ x.length * (1048576 + 4) := Nat.le_mul_of_pos_right _ (by decide)
  have hmul2 : x.length * (1048576 + 3) ≤ x.length * (1048576 + 4) := Nat.mul_le_mul_left _ (by decide)
  have h1 := hfew k (by omega)
  have h2 := copied_is x (by omega) (fun s hs => by have := (ha.2 s hs).1; omega) k (by omega)
  have h3 := write_is hm (by omega)
  have h4 := formed_is x 1048576 (by decide) ha.1 ha.2 k (by omega)
  refine ⟨k, ?_⟩
  unfold depotlaw21_ControlBack.f
  rw [h1]
  simp only [Option.bind_some]
  rw [h2]
  simp only [Option.bind_some]
  rw [h3]
  simp only [Option.bind_some]
  rw [h4]
  simp only [Option.bind_some]
  cases hf : formedC x with
  | true =>
    obtain ⟨l', hr, he⟩ := read_write x hf
    have hlen := stanzasW_len x 0
    have h5 := read_is (mkB (stanzasW 0 x)) (by rw [mkB_size]; omega)
    have h6 := same_is x l' false 1048576 (by decide) he.symm (fun h => by cases h) (by omega) (fun s hs => (ha.2 s hs).1) k (by omega)
    rw [if_pos rfl, writeC_ok hf]
    simp only
    rw [h5, hr]
    simp only [Option.bind_some]
    rw [if_pos trivial, if_pos trivial, if_pos trivial, h6]
    simp only [Option.bind_some]
    rw [if_pos trivial, awake_is]
    rfl
  | false =>
    rw [if_neg (by decide), writeC_no hf]
    simp only
    rw [if_pos trivial, if_pos (by rw [ByteArray.toList_eq]), awake_is]
    rfl

/-! ### what is read is formed -/
theorem fieldsOk_snoc (f : S50) : ∀ (fs pre : List S50), fieldsOk pre (fs ++ [f]) = (fieldsOk pre fs && fieldOk (pre ++ fs) f)
  | [], pre => by simp [fieldsOk]
  | g :: fs, pre => by
    rw [List.cons_append, fieldsOk, fieldsOk, fieldsOk_snoc f fs (pre ++ [g]), Bool.and_assoc]
    simp
def Good (s : FS) : Prop := (∀ f ∈ s.1, f ≠ [] ∧ fieldsOk [] f = true) ∧ fieldsOk [] s.2 = true
theorem Good.gap {s : FS} (h : Good s) : Good (gapF s) := by
  unfold gapF
  by_cases hs : s.2 = []
  · rw [if_pos hs]; exact h
  · rw [if_neg hs]
    refine ⟨fun f hf => ?_, rfl⟩
    rcases List.mem_append.1 hf with hf | hf
    · exact h.1 f hf
    · obtain rfl : f = s.2 := by simpa using hf
      exact ⟨hs, h.2⟩
theorem piecesOk_snoc (t : List UInt8) : ∀ P : List (List UInt8), P ≠ [] → piecesOk (P ++ [t]) = (piecesOk P && innerP t)
  | [], h => absurd rfl h
  | p :: P, _ => by
    rw [List.cons_append, piecesOk, piecesOk, List.all_append, Bool.and_assoc]
    simp
theorem value_trim {va : List UInt8} (hf : fairL false va = true) (hn : noFeed va) : valueL (trimC va) = true := by
  unfold valueL
  rw [fair_trim, fair_feeds hf, pieces_line (trimC va) (fun c hc => hn c (trim_mem hc)), Bool.true_and]
  show (trimmed (trimC va) && ([] : List (List UInt8)).all innerP) = true
  unfold trimmed
  rw [trim_of_tight (trim_tight va)]
  simp
theorem value_more {v t : List UInt8} (hv : valueL v = true) (hf : fairL true t = true) (hn : noFeed t) (ht : tight t) (hne : t ≠ []) : valueL (v ++ 10 :: t) = true := by
  unfold valueL at hv ⊢
  rw [Bool.and_eq_true] at hv
  have hi : innerP t = true := by
    unfold innerP trimmed
    rw [trim_of_tight ht]
    simp [hne]
  rw [fair_at true v 10 t (by decide) (by decide), hv.1, hf, pieces_snoc t hn, piecesOk_snoc t _ (R.pieces_ne v), hv.2, hi]
  rfl
theorem Good.step {s s' : FS} {a : List UInt8} (h : Good s) (ha : noFeed a) (hst : stepF s a = some s') : Good s' := by
  unfold stepF at hst
  by_cases h1 : fairL false a = false
  · rw [if_pos h1] at hst; cases hst
  rw [if_neg h1] at hst
  have hfa : fairL false a = true := by cases hx : fairL false a with | true => rfl | false => exact absurd hx h1
  by_cases h2 : hasPrefix a [35] = true
  · rw [if_pos h2] at hst; obtain rfl := Option.some.inj hst; exact h
  rw [if_neg h2] at hst
  by_cases h3 : trimC a = []
  · rw [if_pos h3] at hst; obtain rfl := Option.some.inj hst; exact h.gap
  rw [if_neg h3] at hst
  by_cases h4 : (hasPrefix a [32] || hasPrefix a [9]) = true
  · rw [if_pos h4] at hst
    by_cases h5 : s.2 = []
    · rw [if_pos h5] at hst; cases hst
    · rw [if_neg h5] at hst
      obtain rfl := Option.some.inj hst
      refine ⟨h.1, ?_⟩
      obtain ⟨fs, f, hfs⟩ : ∃ fs f, s.2 = fs ++ [f] := ⟨s.2.dropLast, s.2.getLast h5, (List.dropLast_concat_getLast h5).symm⟩
      have hok := h.2
      have ef : f = ⟨f.f0, mkB f.f1.data.toList⟩ := by rw [mkB_data]
      show fieldsOk [] (moreC s.2 (trimC a)) = true
      rw [hfs, ef, more_snoc, fieldsOk_snoc, List.nil_append]
      rw [hfs, fieldsOk_snoc, List.nil_append, Bool.and_eq_true] at hok
      have hfo := hok.2
      unfold fieldOk at hfo ⊢
      rw [Bool.and_eq_true, Bool.and_eq_true] at hfo
      have hv := value_more hfo.1.2 (t := trimC a) (by rw [fair_trim]; exact fair_feeds hfa) (fun c hc => ha c (trim_mem hc)) (trim_tight a) h3
      have e3 : (mkB (f.f1.data.toList ++ 10 :: trimC a)).data.toList = f.f1.data.toList ++ 10 :: trimC a := rfl
      rw [hok.1]
      simp only
      rw [hfo.1.1, e3, hv, hfo.2]
      rfl
  rw [if_neg h4] at hst
  by_cases h5 : (!(cut a [58]).2.2 || !nameL (cut a [58]).1) = true
  · rw [if_pos h5] at hst; cases hst
  rw [if_neg h5] at hst
  by_cases h6 : hasF s.2 (mkB (cut a [58]).1) = true
  · rw [if_pos h6] at hst; cases hst
  rw [if_neg h6] at hst
  obtain rfl := Option.some.inj hst
  refine ⟨h.1, ?_⟩
  obtain ⟨ka, va, fo, hc⟩ : ∃ ka va fo, cut a [58] = (ka, va, fo) := ⟨_, _, _, rfl⟩
  unfold fieldC
  rw [hc] at h5 h6 ⊢
  simp only at h5 h6 ⊢
  have hfo : fo = true := by cases fo with | true => rfl | false => exact absurd rfl h5
  subst hfo
  have hn : nameL ka = true := by cases hx : nameL ka with | true => rfl | false => rw [hx] at h5; exact absurd rfl h5
  have hh : hasF s.2 (mkB ka) = false := by cases hx : hasF s.2 (mkB ka) with | false => rfl | true => exact absurd hx h6
  have hj := cut_join 58 a ka va hc
  rw [hj, fair_at false ka 58 va (by decide) (by decide), Bool.and_eq_true] at hfa
  have hv := value_trim hfa.2 (fun c hc => ha c (by rw [hj]; simp [hc]))
  have e1 : (mkB ka).data.toList = ka := rfl
  have e2 : (mkB (trimC va)).data.toList = trimC va := rfl
  rw [fieldsOk_snoc, List.nil_append, h.2]
  unfold fieldOk
  simp only
  rw [e1, e2, hn, hv, hh]
  rfl
theorem Good.rest : ∀ (ls : List (List UInt8)) (s : FS) (r : List (List S50)), Good s → (∀ a ∈ ls, noFeed a) → restF s ls = some r → ∀ f ∈ r, f ≠ [] ∧ fieldsOk [] f = true
  | [], s, r, h, _, hr => by
    obtain rfl := Option.some.inj (show some (gapF s).1 = some r from hr)
    exact h.gap.1
  | a :: ls, s, r, h, hn, hr => by
    rw [restF] at hr
    cases hs : stepF s a with
    | none => rw [hs] at hr; cases hr
    | some s' =>
      rw [hs] at hr
      exact Good.rest ls s' r (h.step (hn a List.mem_cons_self) hs) (fun x hx => hn x (List.mem_cons_of_mem _ hx)) hr
theorem read_formed (s : ByteArray) (h : (readC s).2.1 = 0) : formedC (readC s).1 = true := by
  have hr := (rest_of_read h).1
  have hg := Good.rest _ ([], []) _ ⟨(fun f hf => by cases hf), rfl⟩ (lines_noFeed s.data.toList.length s.data.toList (Nat.le_refl _)) hr
  refine List.all_eq_true.2 fun x hx => ?_
  have := hg x.f1 (List.mem_map.2 ⟨x, hx, rfl⟩)
  unfold stanzaOk
  rw [this.2]
  simp [this.1]

/-! ### how much is read -/
def massC (st : CS) : Nat := massS st.out + massF st.fs + (if st.fs = [] then 0 else 1)
theorem gap_mass (st : CS) : massC (gapC st) = massC st := by
  unfold gapC
  by_cases h : st.fs = []
  · rw [if_pos h]
  · rw [if_neg h]
    unfold massC massS
    rw [if_neg h, massL_app]
    first | (simp [Args.massL, massF]; done) | (simp [Args.massL, massF]; omega)
theorem out_mass (st : CS) : massS st.out ≤ massC st := by unfold massC; omega
theorem last_mass (fs : List S50) (f g : S50) (n : Nat) (h0 : g.f0.size = f.f0.size) (h1 : g.f1.size = f.f1.size + n) : massF (fs ++ [g]) = massF (fs ++ [f]) + n := by
  unfold massF
  rw [massL_app, massL_app]
  simp only [Args.massL]
  omega
theorem cut_sum58 (a : List UInt8) : (cut a [58]).1.length + (cut a [58]).2.1.length ≤ a.length := by
  unfold cut
  split
  · simp only [List.length_take, List.length_drop]; omega
  · simp
theorem step_mass (st : CS) (a : List UInt8) (n : Nat) : massC (stepC st a n).1 ≤ massC st + (a.length + 2) := by
  unfold stepC
  split
  · simp only; omega
  split
  · simp only; omega
  split
  · simp only; rw [gap_mass]; omega
  split
  · split
    · simp only; omega
    · rename_i hfs
      simp only
      obtain ⟨fs, f, he⟩ : ∃ fs f, st.fs = fs ++ [f] := ⟨st.fs.dropLast, st.fs.getLast hfs, (List.dropLast_concat_getLast hfs).symm⟩
      have ef : f = ⟨f.f0, mkB f.f1.data.toList⟩ := by rw [mkB_data]
      have em : moreC st.fs (trimC a) = fs ++ [⟨f.f0, mkB (f.f1.data.toList ++ 10 :: trimC a)⟩] := by
        conv => lhs; rw [he, ef]
        rw [more_snoc]
      have hne : moreC st.fs (trimC a) ≠ [] := by rw [em]; simp
      have hlm := last_mass fs f ⟨f.f0, mkB (f.f1.data.toList ++ 10 :: trimC a)⟩ (1 + (trimC a).length) rfl (by
        simp only [mkB_size, List.length_append, List.length_cons, ← size_eq]
        omega)
      have ht := trimC_length a
      unfold massC
      simp only
      rw [if_neg hne, if_neg hfs, em, hlm, ← he]
      omega
  split
  · simp only; omega
  split
  · simp only; omega
  · have hcp := cut_sum58 a
    unfold massC fieldC
    simp only
    have ht := trimC_length (cut a [58]).2.1
    have hm : massF (st.fs ++ [⟨mkB (cut a [58]).1, mkB (trimC (cut a [58]).2.1)⟩]) = massF st.fs + ((cut a [58]).1.length + (trimC (cut a [58]).2.1).length + 1) := by
      unfold massF
      rw [massL_app]
      simp only [Args.massL, mkB_size, Nat.add_zero]
    rw [hm, if_neg (by simp)]
    omega
theorem rest_mass : ∀ (ls : List (List UInt8)) (st : CS) (n : Nat), massS (restC st n ls).1 ≤ massC st + (ls.map (fun a => a.length + 2)).sum
  | [], st, n => by
    have := gap_mass st
    have h2 := out_mass (gapC st)
    rw [restC]
    simp only [List.map_nil, List.sum_nil]
    omega
  | a :: ls, st, n => by
    rw [restC]
    split
    · have h1 := rest_mass ls (stepC st a (n + 1)).1 (n + 1)
      have h2 := step_mass st a (n + 1)
      simp only [List.map_cons, List.sum_cons]
      omega
    · show 0 ≤ _
      omega
theorem lines_sum (n : Nat) : ∀ l : List UInt8, l.length ≤ n → ((linesA l).map (fun a => a.length + 2)).sum ≤ 2 * l.length + 1 := by
  induction n with
  | zero =>
    intro l h
    have : l = [] := List.eq_nil_of_length_eq_zero (by omega)
    subst this
    simp [R.linesA_nil]
  | succ n ih =>
    intro l h
    by_cases hl : l = []
    · subst hl; simp [R.linesA_nil]
    · have hp := List.length_pos_iff.2 hl
      have hc := R.cut_len l hl
      have h2 := ih (cut l [10]).2.1 (by omega)
      rw [R.linesA_cons l hl, List.map_cons, List.sum_cons]
      rcases hq : (cut l [10]).2.2 with _ | _
      · obtain ⟨e1, e2⟩ := R.cut_off l hq
        rw [e1, e2, R.linesA_nil]
        simp only [List.map_nil, List.sum_nil]
        omega
      · have ej := cut_join 10 l (cut l [10]).1 (cut l [10]).2.1 (by rw [← hq])
        have el := congrArg List.length ej
        rw [List.length_append, List.length_cons] at el
        omega
theorem read_mass (s : ByteArray) : massS (readC s).1 ≤ 2 * s.size + 1 := by
  have h1 := rest_mass (linesA s.data.toList) cs0 0
  have h2 := lines_sum s.data.toList.length s.data.toList (Nat.le_refl _)
  have e : massC cs0 = 0 := rfl
  rw [e, Nat.zero_add] at h1
  rw [← size_eq] at h2
  exact Nat.le_trans h1 h2

theorem controlAgain_pure (s : ByteArray) (hs : s.size ≤ 1048576) : ∃ k, depotlaw21_ControlAgain.f k s = some true := by
  have hm0 := read_mass s
  obtain ⟨x, e, at_, hx⟩ : ∃ x e at_, readC s = (x, e, at_) := ⟨_, _, _, rfl⟩
  have h0 := read_is s (by omega)
  rw [hx] at h0 hm0
  have hm1 : massS x ≤ 2097153 := by simp only at hm0; omega
  obtain ⟨B, hBe⟩ : ∃ B, massS x = B := ⟨_, rfl⟩
  have hm : massS x ≤ B := Nat.le_of_eq hBe
  rw [hBe] at hm1
  have ha := mass_all hm
  obtain ⟨k, hk⟩ : ∃ k, x.length * (B + 4) + B + 8 < k := ⟨_, Nat.lt_succ_self _⟩
  have hmul : x.length ≤ x.length * (B + 4) := Nat.le_mul_of_pos_right _ (Nat.succ_pos _)
  have hmul2 : x.length * (B + 3) ≤ x.length * (B + 4) := Nat.mul_le_mul_left _ (Nat.le_succ _)
  refine ⟨k, ?_⟩
  unfold depotlaw21_ControlAgain.f
  rw [h0]
  simp only [Option.bind_some]
  by_cases he : e = 0
  · subst he
    have hf := read_formed s (by rw [hx])
    rw [hx] at hf
    simp only at hf
    obtain ⟨l', hr, hmp⟩ := read_write x hf
    have hlen := stanzasW_len x 0
    have h2 := copied_is x (by omega) (fun s hs => by have := (ha.2 s hs).1; omega) k (by omega)
    have h3 := write_is hm (by omega)
    have h4 := formed_is x B (by omega) ha.1 ha.2 k (by omega)
    have h5 := read_is (mkB (stanzasW 0 x)) (by rw [mkB_size]; omega)
    have h6 := same_is x l' false B (by omega) hmp.symm (fun h => by cases h) (by omega) (fun s hs => (ha.2 s hs).1) k (by omega)
    rw [if_pos rfl, h2]
    simp only [Option.bind_some]
    rw [h3, writeC_ok hf]
    simp only [Option.bind_some]
    rw [h5, hr]
    simp only [Option.bind_some]
    rw [h4, hf]
    simp only [Option.bind_some]
    rw [if_pos trivial, if_pos trivial, if_pos trivial, if_pos trivial, h6]
    simp only [Option.bind_some]
    rw [if_pos trivial, awake_is]
    rfl
  · have hb := read_bad (s := s) (by rw [hx]; exact he)
    rw [hx] at hb
    simp only at hb
    subst hb
    rw [if_neg he, if_pos (by rfl), awake_is]
    rfl
end Go.Proofs.YtbaiglikmneicaaDoor.P
