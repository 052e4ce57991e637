/- The reference reads every text as the program does. No conditions. -/
import Derived.Test.YtejdjmcdlbcmeaaDoorRefU
import Derived.Test.YtejdjmcdlbcmeaaDoorUx4
import Derived.Test.YtejdjmcdlbcmeaaDoorUx7
set_option linter.unusedVariables false
set_option linter.unusedSimpArgs false
namespace Go.Proofs.YtejdjmcdlbcmeaaDoor.U
open Go.Proofs.YtejdjmcdlbcmeaaDoor.R Go.RowKit Go.Lib Go.Proofs.YtejdjmcdlbcmeaaDoorW.PrintWords Go.Proofs.YtejdjmcdlbcmeaaDoorW.PrintLast Go.Proofs.YtejdjmcdlbcmeaaDoorW.PrintMore

def massA : List (List UInt8) → Nat
  | [] => 0
  | l :: r => l.length + 1 + massA r
theorem massA_len : ∀ L : List (List UInt8), L.length ≤ massA L := by
  intro L
  induction L with
  | nil => exact Nat.le_refl _
  | cons l r ih => show r.length + 1 ≤ l.length + 1 + massA r; omega
theorem massA_mem : ∀ (L : List (List UInt8)), ∀ l ∈ L, l.length + 1 ≤ massA L := by
  intro L
  induction L with
  | nil => intro l h; cases h
  | cons a r ih =>
    intro l h
    show l.length + 1 ≤ a.length + 1 + massA r
    rcases List.mem_cons.1 h with rfl | h
    · omega
    · have := ih l h; omega
theorem massA_spk : ∀ (L : List (List UInt8)) (n : Nat), (spkB (L.map mkB) n).length ≤ massA L := by
  intro L
  induction L with
  | nil => intro n; exact Nat.le_refl _
  | cons l r ih =>
    intro n
    rw [spk_cons, List.length_append]
    have h1 := ih (n + 1)
    have h2 := wordsB_length (mkB l)
    rw [mkB_size] at h2
    show _ ≤ l.length + 1 + massA r
    split
    · rw [List.length_nil]; omega
    · rw [List.length_map]; omega
theorem cut_mass : ∀ l : List UInt8, (cut l [10]).1.length + (cut l [10]).2.1.length + (if (cut l [10]).2.2 then 1 else 0) = l.length := by
  intro l
  induction l with
  | nil => rw [cut_nil]; rfl
  | cons b l ih =>
    rw [cut_cons]
    by_cases hb : b = 10
    · rw [if_pos hb]; simp
    · rw [if_neg hb]
      simp only [List.length_cons]
      omega
theorem linesA_mass (d : Nat) : ∀ l : List UInt8, l.length ≤ d → massA (linesA l) ≤ l.length + 1 := by
  induction d with
  | zero =>
    intro l h
    obtain rfl : l = [] := List.length_eq_zero_iff.1 (by omega)
    rw [linesA_nil]
    exact Nat.zero_le _
  | succ d ih =>
    intro l h
    by_cases hl : l = []
    · rw [hl, linesA_nil]; exact Nat.zero_le _
    · have hc := cut_mass l
      have hlt := cut_len l hl
      rw [linesA_cons l hl]
      show (cut l [10]).1.length + 1 + massA (linesA (cut l [10]).2.1) ≤ _
      cases hf : (cut l [10]).2.2 with
      | true =>
        rw [hf, if_pos rfl] at hc
        have := ih _ (show (cut l [10]).2.1.length ≤ d by omega)
        omega
      | false =>
        have ho := cut_off l hf
        rw [ho.2, linesA_nil, ho.1]
        exact Nat.le_refl _
theorem read_is (s : ByteArray) (hs : s.size ≤ 1048576) : ∃ K, ∀ k, K < k → depotref03_Read.f k s = some (toR (readD s)) := by
  obtain ⟨M, hM0⟩ : ∃ M : Nat, M = 1048577 := ⟨_, rfl⟩
  have hsz : s.data.toList.length = s.size := by simp
  have hm := linesA_mass _ s.data.toList (Nat.le_refl _)
  generalize hL : linesA s.data.toList = L at hm
  have hLl := massA_len L
  have hsp := massA_spk L 0
  have hX : (L.map mkB).length = L.length := List.length_map _
  have hXs : ∀ x ∈ L.map mkB, x.size ≤ M := fun x hx => by
    obtain ⟨l, hl, rfl⟩ := List.mem_map.1 hx
    have := massA_mem L l hl
    rw [mkB_size]
    omega
  have hf0 : ∀ w ∈ spkB (L.map mkB) 0, w.f0.size ≤ M := by
    have gen : ∀ (X : List ByteArray) (n : Nat), (∀ x ∈ X, x.size ≤ M) → ∀ w ∈ spkB X n, w.f0.size ≤ M := by
      intro X
      induction X with
      | nil => intro n _ w h; simp [spkB] at h
      | cons a r ih =>
        intro n hx w h
        unfold spkB at h
        rcases List.mem_append.1 h with h | h
        · split at h
          · simp at h
          · obtain ⟨y, hy, rfl⟩ := List.mem_map.1 h
            have h1 := wordsB_size a y hy
            have h2 := hx a List.mem_cons_self
            show y.size ≤ _
            omega
        · exact ih (n + 1) (fun x hx' => hx x (List.mem_cons_of_mem _ hx')) w h
    exact gen _ 0 hXs
  refine ⟨(L.map mkB).length * (M + 4) + 20000000, fun k hk => ?_⟩
  unfold depotref03_Read.f
  have hlines : depotref03_Lines.f k s = some (L.map mkB) := by
    have := lines_is s (by omega) k (by omega)
    rw [this, ← hL]
    show some ((linesL s.size s.data.toList).map mk_) = some ((linesL s.data.toList.length s.data.toList).map mkB)
    rw [hsz]
    rfl
  rw [hlines]
  simp only [Option.bind_some]
  rw [spoken_is (L.map mkB) M (by omega) (by omega) hXs (by omega) k (by omega)]
  simp only [Option.bind_some]
  have hrd : readD s = linesD L 0 fst0 := by unfold readD; rw [hL]
  rw [hrd]
  rcases lines_first L 0 with ⟨h1, h2⟩ | ⟨ws, m, rest, hne, h1, hB, h2⟩
  · rw [h1, h2, if_pos (show ((([] : List S73).length : Nat) : Int) = 0 from rfl), w64r (by omega) (by omega), hX]
    congr 5
    omega
  · rw [h1] at hsp hf0 ⊢
    rw [h2]
    have hws : ∀ w ∈ ws, w.size ≤ M := fun w hw => hf0 (at_ m w) (List.mem_append_left _ (List.mem_map.2 ⟨w, hw, rfl⟩))
    have hpos := List.length_pos_iff.2 hne
    have hlen : (ws.map (at_ m) ++ rest).length = ws.length + rest.length := by rw [List.length_append, List.length_map]
    obtain ⟨g1, g2⟩ := head_is' ws hne m rest hB M (by omega) hws (by omega) k (by omega)
    rw [if_neg (by omega), g1]
    simp only [Option.bind_some]
    cases hk2 : (headR ws).2.2 with
    | true =>
      obtain ⟨q4, q2, q3, v0, v1⟩ := g2 hk2
      rw [if_pos rfl, if_pos (by omega), q2, if_pos rfl]
      simp only [Option.bind_some]
      have hr := read_l0 (L.map mkB) (by omega) (ws.map (at_ m) ++ rest) (by omega) (by omega) (headR ws).2.1 (headR ws).1 v0 v1 q3 M (by omega) hf0 ((ws.map (at_ m) ++ rest).length - 4) k 4 [] [] (by omega) rfl (by omega) (by simp) (by simp)
      have hdrop : (ws.map (at_ m) ++ rest).drop 4 = rest := by
        rw [List.drop_append_of_le_length (by rw [List.length_map]; omega), List.drop_of_length_le (by rw [List.length_map]; omega), List.nil_append]
      rw [hdrop, hX] at hr
      rw [show 0 + L.length = L.length by omega]
      exact hr
    | false =>
      have hf1 : (rd_T73 (ws.map (at_ m) ++ rest) 0).f1 = (m : Int) := by
        match ws, hne with
        | a :: r, _ => rfl
      rw [if_neg (show ¬ (false = true) by decide), if_pos (by omega), hf1]
      rfl
end Go.Proofs.YtejdjmcdlbcmeaaDoor.U
