/- What the reference's Lines come to: the text cut at its line feeds, as strings.Cut cuts it. No conditions. -/
import Derived.Test.YtooojhlndlebdaaRRRDoorRRRRWordsIs
import Derived.Lib.IndexMore
set_option linter.unusedVariables false
set_option linter.unusedSimpArgs false
namespace Go.Proofs.YtooojhlndlebdaaRRRDoorRRRR.R
open Go.RowKit Go.Lib Go.Proofs.YtooojhlndlebdaaRRRDoorRRRRW.PrintWords Go.Proofs.YtooojhlndlebdaaRRRDoorRRRRW.PrintLast Go.Proofs.YtooojhlndlebdaaRRRDoorRRRRW.PrintMore

/-- The lines of a text, cut one by one. -/
def linesL : Nat → List UInt8 → List (List UInt8)
  | 0, _ => []
  | n + 1, l => if l = [] then [] else (cut l [10]).1 :: linesL n (cut l [10]).2.1
theorem linesL_nil (n : Nat) : linesL n [] = [] := by cases n <;> simp [linesL]
theorem occ_iff (l : List UInt8) (i : Nat) : occAt l [10] i = true ↔ l[i]? = some 10 := by
  unfold occAt
  rw [← List.head?_drop]
  cases h : l.drop i with
  | nil => simp
  | cons b t =>
    simp only [List.isPrefixOf, Bool.and_true, beq_iff_eq, List.head?_cons, Option.some.injEq]
    exact eq_comm
theorem cut_at (l : List UInt8) (n : Nat) (h0 : ∀ j, j < n → l[j]? ≠ some 10) (h1 : l[n]? = some 10) : cut l [10] = (l.take n, l.drop (n + 1), true) := by
  have hn : n ≤ l.length := by
    rcases Nat.lt_or_ge n l.length with h | h
    · omega
    · rw [List.getElem?_eq_none h] at h1; cases h1
  have e : index l [10] = (n : Int) := index_first hn ((occ_iff l n).2 h1) (fun j hj => by
    cases h : occAt l [10] j with
    | false => rfl
    | true => exact absurd ((occ_iff l j).1 h) (h0 j hj))
  unfold cut
  rw [e, if_pos (by omega), Int.toNat_natCast]
  rfl
theorem cut_no (l : List UInt8) (h0 : ∀ j : Nat, l[j]? ≠ some 10) : cut l [10] = (l, [], false) := by
  have e : index l [10] = -1 := index_none (fun j _ => by
    cases h : occAt l [10] j with
    | false => rfl
    | true => exact absurd ((occ_iff l j).1 h) (h0 j))
  unfold cut
  rw [e, if_neg (by omega)]
def mk_ (l : List UInt8) : ByteArray := ⟨l.toArray⟩
theorem extract_mk (s : ByteArray) (a b : Nat) : s.extract a b = mk_ ((s.data.toList.drop a).take (b - a)) := by
  unfold mk_
  apply ByteArray.ext
  rw [ByteArray.data_extract]
  apply Array.ext'
  simp
theorem by_at (s : ByteArray) (i : Nat) (h : i < s.size) : s.data.toList[i]? = some (UInt8.ofNat (by_ s i)) := by
  have hl : i < s.data.toList.length := by simpa using h
  rw [List.getElem?_eq_getElem hl]
  unfold by_
  simp [ByteArray.get!, h]

theorem lines_l0 (s : ByteArray) (hs : s.size ≤ 4398046511104) (d : Nat) : ∀ (k i a n : Nat) (acc : List ByteArray), i ≤ s.size → s.size - i = d → a ≤ i → (∀ j, a + j < i → (s.data.toList.drop a)[j]? ≠ some 10) → acc.length ≤ i → d + 1 < k → s.size - a ≤ n →
    depotref03_Lines.l0 k s acc (a : Int) (i : Int) = some (acc ++ (linesL n (s.data.toList.drop a)).map mk_) := by
  have hsz : s.data.toList.length = s.size := by simp
  induction d with
  | zero =>
    intro k i a n acc h0 hd ha hno hl hk hn
    obtain ⟨k, rfl⟩ := succ_ofr hk
    obtain rfl : i = s.size := by omega
    rw [depotref03_Lines.l0, if_neg (by omega)]
    by_cases hai : a < s.size
    · rw [if_pos (by omega), if_pos (by omega), if_pos (by omega), if_pos (by omega)]
      obtain ⟨n, rfl⟩ : ∃ m, n = m + 1 := ⟨n - 1, by omega⟩
      have hne : s.data.toList.drop a ≠ [] := by
        intro h
        have := congrArg List.length h
        simp [hsz] at this
        omega
      have hc := cut_no (s.data.toList.drop a) (fun j => by
        rcases Nat.lt_or_ge (a + j) s.size with hj | hj
        · exact hno j hj
        · rw [List.getElem?_drop, List.getElem?_eq_none (by omega)]; simp)
      rw [linesL, if_neg hne, hc, linesL_nil]
      congr 2
      simp only [List.map_cons, List.map_nil, Int.toNat_natCast]
      rw [extract_mk]
      congr 2
      rw [List.take_of_length_le]
      simp [hsz]
    · rw [if_neg (by omega)]
      rw [List.drop_of_length_le (by omega), linesL_nil]
      simp
  | succ d ih =>
    intro k i a n acc h0 hd ha hno hl hk hn
    obtain ⟨k, rfl⟩ := succ_ofr hk
    have hi : i < s.size := by omega
    have e1 : ((i : Int) + 1) = ((i + 1 : Nat) : Int) := by omega
    have hby : (s.data.toList.drop a)[i - a]? = some (UInt8.ofNat (by_ s i)) := by rw [List.getElem?_drop, show a + (i - a) = i by omega]; exact by_at s i hi
    have hlt : by_ s i < 256 := by unfold by_; exact UInt8.toNat_lt _
    rw [depotref03_Lines.l0, if_pos (by omega), if_pos (by omega), bt_nat s i hi]
    by_cases h10 : (by_ s i : Int) = 10
    · rw [if_pos h10, if_pos (by omega), if_pos (by omega), if_pos (by omega), if_pos (by omega), w64r (by omega) (by omega), e1]
      obtain ⟨n, rfl⟩ : ∃ m, n = m + 1 := ⟨n - 1, by omega⟩
      have hc := cut_at (s.data.toList.drop a) (i - a) (fun j hj => hno j (by omega)) (by rw [hby]; congr 1; rw [show by_ s i = 10 by omega]; rfl)
      have hne : s.data.toList.drop a ≠ [] := by
        intro h
        rw [h] at hby
        cases hby
      rw [ih k (i + 1) (i + 1) n (acc ++ [s.extract (a : Int).toNat (i : Int).toNat]) (by omega) (by omega) (by omega) (fun j hj => by omega) (by simp; omega) (by omega) (by omega)]
      rw [linesL, if_neg hne, hc]
      simp only [List.map_cons, Int.toNat_natCast, List.append_assoc, List.singleton_append, List.drop_drop]
      rw [extract_mk, show a + (i - a + 1) = i + 1 by omega]
    · rw [if_neg h10, w64r (by omega) (by omega), e1]
      refine ih k (i + 1) a n acc (by omega) (by omega) (by omega) (fun j hj => ?_) (by omega) (by omega) hn
      rcases Nat.lt_or_ge (a + j) i with hj2 | hj2
      · exact hno j hj2
      · obtain rfl : j = i - a := by omega
        rw [hby]
        intro h
        have := congrArg UInt8.toNat (Option.some.inj h)
        simp [UInt8.toNat_ofNat'] at this
        omega
theorem lines_is (s : ByteArray) (hs : s.size ≤ 4398046511104) (k : Nat) (hk : s.size + 1 < k) : depotref03_Lines.f k s = some ((linesL s.size s.data.toList).map mk_) := by
  unfold depotref03_Lines.f
  have := lines_l0 s hs s.size k 0 0 s.size [] (by omega) (by omega) (by omega) (fun j hj => by omega) (by simp) hk (by omega)
  simpa using this
end Go.Proofs.YtooojhlndlebdaaRRRDoorRRRR.R
