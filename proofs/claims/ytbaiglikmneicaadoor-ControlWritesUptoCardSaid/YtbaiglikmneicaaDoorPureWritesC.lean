/- The pure law ControlWrites. No conditions. -/
import Derived.Test.YtbaiglikmneicaaDoorMassC
import Derived.Test.YtbaiglikmneicaaDoorRefWrite
set_option linter.unusedVariables false
set_option linter.unusedSimpArgs false
namespace Go.Proofs.YtbaiglikmneicaaDoor.P
open Go.RowKit Go.Lib Go.Proofs.YtbaiglikmneicaaDoorW.PrintWords Go.Proofs.YtbaiglikmneicaaDoorW.PrintLast Go.Proofs.YtbaiglikmneicaaDoorW.PrintMore
open Go.Proofs.YtbaiglikmneicaaDoor.R (mkB mkB_size mkB_data pieces linesA)
open Go.Proofs.YtbaiglikmneicaaDoor.C (fairL okC fair_at fair_nil fair_feeds)

theorem pieces_sum2 : ∀ v : List UInt8, ((pieces v).map (fun p => p.length + 2)).sum ≤ 2 * v.length + 2
  | [] => by simp [pieces]
  | b :: v => by
    have ih := pieces_sum2 v
    rw [pieces]
    by_cases hb : b = 10
    · rw [if_pos hb]
      simp only [List.map_cons, List.sum_cons, List.length_nil, List.length_cons]
      omega
    · rw [if_neg hb]
      cases h : pieces v with
      | nil => exact absurd h (R.pieces_ne v)
      | cons q qs =>
        rw [h] at ih
        simp only [List.map_cons, List.sum_cons, List.length_cons] at ih ⊢
        omega
theorem piecesW_sum2 : ∀ (P : List (List UInt8)) (i : Nat), (piecesW i P).length ≤ (P.map (fun p => p.length + 2)).sum
  | [], _ => Nat.le_refl _
  | p :: P, i => by
    have ih := piecesW_sum2 P (i + 1)
    have hp : (pieceW i p).length ≤ p.length + 2 := by
      unfold pieceW
      rw [List.length_append]
      split <;> split <;> simp <;> omega
    rw [piecesW, List.length_append, List.map_cons, List.sum_cons]
    omega
theorem fieldW_len2 (f : S50) : (fieldW f).length ≤ 4 * (f.f0.size + f.f1.size + 1) := by
  have h1 := piecesW_sum2 (pieces f.f1.data.toList) 0
  have h2 := pieces_sum2 f.f1.data.toList
  unfold fieldW
  simp only [List.length_append, List.length_cons, List.length_nil, ← size_eq] at h1 h2 ⊢
  omega
theorem fieldsW_len2 : ∀ fs : List S50, (fieldsW fs).length ≤ 4 * massF fs
  | [] => Nat.le_refl _
  | f :: fs => by
    have h1 := fieldW_len2 f
    have h2 := fieldsW_len2 fs
    have e : fieldsW (f :: fs) = fieldW f ++ fieldsW fs := rfl
    have e2 : massF (f :: fs) = (f.f0.size + f.f1.size + 1) + massF fs := rfl
    rw [e, e2, List.length_append]
    omega
theorem stanzasW_len2 : ∀ (l : List S41) (i : Nat), (stanzasW i l).length ≤ 4 * massS l
  | [], _ => Nat.le_refl _
  | s :: l, i => by
    have h1 := fieldsW_len2 s.f1
    have h2 := stanzasW_len2 l (i + 1)
    have e2 : massS (s :: l) = (massF s.f1 + 1) + massS l := rfl
    have h3 : (stanzaW i s).length ≤ 1 + (fieldsW s.f1).length := by
      unfold stanzaW
      rw [List.length_append]
      split <;> simp
    rw [stanzasW, e2, List.length_append]
    omega
theorem small_of2 {l : List S41} {B : Nat} (h : massS l ≤ B) (hB : B ≤ 4294967280) : SmallC l := by
  obtain ⟨h1, h2⟩ := mass_all h
  have h3 := stanzasW_len2 l 0
  exact ⟨Nat.le_trans h1 hB, fun s hs => ⟨Nat.le_trans (h2 s hs).1 hB, fun f hf => ⟨Nat.le_trans ((h2 s hs).2 f hf).1 hB, Nat.le_trans ((h2 s hs).2 f hf).2 hB⟩⟩, by omega⟩
theorem write_is2 {l : List S41} {B : Nat} (h : massS l ≤ B) (hB : B ≤ 4294967280) : control_Write.f l = some (writeC l) := by
  unfold control_Write.f
  rw [if_pos (small_of2 h hB)]
theorem fieldsOk_all : ∀ (fs pre : List S50), fieldsOk pre fs = true → ∀ f ∈ fs, valueL f.f1.data.toList = true
  | [], _, _, f, hf => by cases hf
  | g :: fs, pre, h, f, hf => by
    rw [fieldsOk, Bool.and_eq_true] at h
    rcases List.mem_cons.1 hf with rfl | hf
    · have := h.1
      unfold fieldOk at this
      rw [Bool.and_eq_true, Bool.and_eq_true] at this
      exact this.1.2
    · exact fieldsOk_all fs _ h.2 f hf
theorem refwrite_is (x : List S41) (M : Nat) (hM : M ≤ 1048576) (hm : massS x ≤ M) (k : Nat) (hk : x.length * (M * (M + 4) + 5) + 5 * M + 8 < k) : depotref21_Write.f k x = some (writeC x) := by
  have ha := mass_all hm
  have h0 : M ≤ M * (M + 4) := Nat.le_mul_of_pos_right _ (by omega)
  have h1 : x.length * (M + 3) ≤ x.length * (M * (M + 4) + 5) := Nat.mul_le_mul_left _ (by omega)
  unfold depotref21_Write.f writeC
  rw [refformed_is x M (by omega) ha.1 ha.2 k (by omega)]
  simp only [Option.bind_some]
  cases hf : formedC x with
  | false => rfl
  | true =>
    rw [if_pos rfl, if_pos rfl]
    have hW := stanzasW_len2 x 0
    have hs : ∀ s ∈ x, ∀ f ∈ s.f1, smallF M f ∧ piecesOk (pieces f.f1.data.toList) = true := fun s hs f hfm => by
      refine ⟨(ha.2 s hs).2 f hfm, ?_⟩
      have h2 := List.all_eq_true.1 hf s hs
      unfold stanzaOk at h2
      rw [Bool.and_eq_true] at h2
      have h3 := fieldsOk_all _ _ h2.2 f hfm
      unfold valueL at h3
      rw [Bool.and_eq_true] at h3
      exact h3.2
    exact refw_l0 x (by omega) M (by omega) (fun s hs => (ha.2 s hs).1) hs (stanzasW 0 x) (by omega) x.length 0 [] (Nat.zero_le _) (by omega) (by simp) k (by omega)
theorem controlWrites_pure (l : List S41) (hb : massS l ≤ 1048576) : ∃ k, depotlaw21_ControlWrites.f k l = some true := by
  have hm : massS (fewL l) ≤ 1048576 := Nat.le_trans (few_mass l) hb
  have hl := mass_all hb
  obtain ⟨x, hx⟩ : ∃ x, fewL l = x := ⟨_, rfl⟩
  rw [hx] at hm
  have ha := mass_all hm
  obtain ⟨M, hM, hxM⟩ : ∃ M, M ≤ 1048576 ∧ massS x ≤ M := ⟨massS x, hm, Nat.le_refl _⟩
  obtain ⟨k, hk⟩ : ∃ k, l.length + x.length + (x.length * (M * (M + 4) + 5) + 5 * M + 8) < k := ⟨_, Nat.lt_succ_self _⟩
  have h1 : depotlaw21_few.f k l = some x := by rw [← hx]; exact few_is l (by omega) k (by omega)
  have h2 := copied_is x (by omega) (fun s hs => by have := (ha.2 s hs).1; omega) k (by omega)
  refine ⟨k, ?_⟩
  unfold depotlaw21_ControlWrites.f
  rw [h1]
  simp only [Option.bind_some]
  rw [h2]
  simp only [Option.bind_some]
  rw [write_is2 hm (by omega)]
  simp only [Option.bind_some]
  rw [refwrite_is x M hM hxM k (by omega)]
  simp
end Go.Proofs.YtbaiglikmneicaaDoor.P
