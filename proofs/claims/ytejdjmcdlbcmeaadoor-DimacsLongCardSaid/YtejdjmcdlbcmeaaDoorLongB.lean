/- The pure law DimacsLong. No conditions. -/
import Derived.Test.YtejdjmcdlbcmeaaDoorLongL
import Derived.Test.YtejdjmcdlbcmeaaDoorTLx2
set_option linter.unusedVariables false
set_option linter.unusedSimpArgs false
namespace Go.Proofs.YtejdjmcdlbcmeaaDoor.T
open Go.Proofs.YtejdjmcdlbcmeaaDoor.R Go.RowKit Go.Lib Go.Proofs.YtejdjmcdlbcmeaaDoorW.PrintWords Go.Proofs.YtejdjmcdlbcmeaaDoorW.PrintLast Go.Proofs.YtejdjmcdlbcmeaaDoorW.PrintMore
open Go.Proofs.YtejdjmcdlbcmeaaDoor.P (wordN putR headS sayS saysT unsatT putR_length sayS_length numAt_range)

theorem w64l {x : Int} (h0 : -9223372036854775808 ≤ x) (h1 : x ≤ 9223372036854775807) : wrap64 x = x := by
  unfold wrap64; omega
theorem succ_ofl {k d : Nat} (h : d < k) : ∃ m, k = m + 1 := ⟨k - 1, by omega⟩
theorem bt_mkl (l : List UInt8) (i : Nat) (h : i < l.length) : bt (mkB l) (i : Int) = (l[i].toNat : Int) := by
  unfold bt
  rw [dif_pos (show ((i : Int).toNat) < (mkB l).size by rw [mkB_size]; omega)]
  simp [mkB]
  rfl
theorem rdB_nat {xs : List Bool} {n : Nat} (h : n < xs.length) : rdOf false xs (n : Int) = xs[n] := by
  unfold rdOf
  rw [Int.toNat_natCast, List.getD_eq_getElem?_getD, List.getElem?_eq_getElem h]
  rfl
theorem copyBools_l0 (l : List Bool) (hl : l.length < 17592186044416) (d : Nat) : ∀ (k i : Nat), i ≤ l.length → l.length - i = d → d < k → depotref00_CopyBools.l0 k l (l.take i) (i : Int) = some l := by
  induction d with
  | zero =>
    intro k i h0 hd hk
    obtain ⟨k, rfl⟩ := succ_ofl hk
    rw [depotref00_CopyBools.l0, if_neg (by omega), List.take_of_length_le (by omega)]
  | succ d ih =>
    intro k i h0 hd hk
    obtain ⟨k, rfl⟩ := succ_ofl hk
    have hlt : i < l.length := by omega
    rw [depotref00_CopyBools.l0, if_pos (by omega), if_pos (by omega), if_pos (by rw [List.length_take]; omega), rdB_nat hlt, w64l (by omega) (by omega), ← List.take_succ_eq_append_getElem hlt]
    exact ih k (i + 1) (by omega) (by omega) (by omega)
theorem copyBools_is (l : List Bool) (hl : l.length < 17592186044416) (k : Nat) (hk : l.length < k) : depotref00_CopyBools.f k l = some l := by
  unfold depotref00_CopyBools.f
  have := copyBools_l0 l hl l.length k 0 (by omega) (by omega) hk
  simpa using this
theorem sameBools_l0 (l : List Bool) (hl : l.length ≤ 4398046511104) (d : Nat) : ∀ (k i : Nat), i ≤ l.length → l.length - i = d → d < k → depotref00_SameBools.l0 k l l (i : Int) = some true := by
  induction d with
  | zero =>
    intro k i h0 hd hk
    obtain ⟨k, rfl⟩ := succ_ofl hk
    rw [depotref00_SameBools.l0, if_neg (by omega)]
  | succ d ih =>
    intro k i h0 hd hk
    obtain ⟨k, rfl⟩ := succ_ofl hk
    rw [depotref00_SameBools.l0, if_pos (by omega), if_pos (by omega), if_pos (by omega), if_neg (by simp), w64l (by omega) (by omega)]
    exact ih k (i + 1) (by omega) (by omega) (by omega)
theorem sameBools_self (l : List Bool) (hl : l.length ≤ 4398046511104) (k : Nat) (hk : l.length < k) : depotref00_SameBools.f k l l = some true := by
  unfold depotref00_SameBools.f
  rw [if_pos rfl]
  exact sameBools_l0 l hl l.length k 0 (by omega) (by omega) hk
/-- To the line's end. -/
theorem scan_line (m n : List Bool) (T : List UInt8) (hT : T.length ≤ 4398046511104) (p last kk : Int) (a b : Nat) (hb : b ≤ T.length) (hno : ∀ (j : Nat) (hj : j < T.length), a ≤ j → j < b → T[j] ≠ 10) (d : Nat) : ∀ (i k : Nat), a ≤ i → i ≤ b → b - i = d →
    depotlaw03_DimacsLong.l0 (k + d) m (mkB T) n p last kk (i : Int) = depotlaw03_DimacsLong.l0 k m (mkB T) n p last kk (b : Int) := by
  induction d with
  | zero => intro i k h1 h2 h3; rw [show i = b by omega]; rfl
  | succ d ih =>
    intro i k h1 h2 h3
    have hlt : i < T.length := by omega
    have h10 := hno i hlt h1 (by omega)
    rw [← Nat.add_assoc, depotlaw03_DimacsLong.l0, if_pos (by rw [mkB_size]; omega), if_pos (by omega), bt_mkl T i hlt, if_neg (fun e => h10 (UInt8.toNat_inj.1 (by show (T[i]).toNat = 10; omega))), w64l (by omega) (by omega)]
    exact ih (i + 1) k (by omega) (by omega) (by omega)
/-- What the end of a line asks. -/
def fin_ (k : Nat) (m : List Bool) (s : ByteArray) (n : List Bool) (p last kk e w : Int) : Option Bool :=
  if (wrap64 (e - p)) > 78 then (some false) else (if kk > 1 then (if (wrap64 ((wrap64 (last + 1)) + w)) ≤ 78 then (some false) else (depotlaw03_DimacsLong.l0 k m s n (wrap64 (e + 1)) (wrap64 (e - p)) (wrap64 (kk + 1)) (wrap64 (e + 1)))) else (depotlaw03_DimacsLong.l0 k m s n (wrap64 (e + 1)) (wrap64 (e - p)) (wrap64 (kk + 1)) (wrap64 (e + 1))))
/-- A word's length. -/
theorem word_line (m n : List Bool) (T : List UInt8) (hT : T.length ≤ 4398046511104) (p last kk : Int) (e : Nat) (he : e ≤ T.length) (d : Nat) : ∀ (j k q : Nat), e - j = d → q ≤ j →
    ∃ k', k ≤ k' ∧ depotlaw03_DimacsLong.l1 (k + d + 1) m (mkB T) n p last kk (e : Int) (q : Int) (j : Int) = fin_ k' m (mkB T) n p last kk (e : Int) (((q + (((T.take e).drop j).takeWhile (· ≠ 32)).length : Nat)) : Int) := by
  induction d with
  | zero =>
    intro j k q hd hq
    refine ⟨k, Nat.le_refl _, ?_⟩
    rw [depotlaw03_DimacsLong.l1, if_neg (by omega), List.drop_of_length_le (by rw [List.length_take]; omega)]
    rfl
  | succ d ih =>
    intro j k q hd hq
    have hlt : j < T.length := by omega
    have hje : j < e := by omega
    have hdr : (T.take e).drop j = T[j] :: (T.take e).drop (j + 1) := by
      rw [List.drop_eq_getElem_cons (by rw [List.length_take]; omega), List.getElem_take]
    rw [show k + (d + 1) + 1 = (k + d + 1) + 1 by omega, depotlaw03_DimacsLong.l1, if_pos (by omega), if_pos (by omega), if_pos (by rw [mkB_size]; omega), bt_mkl T j hlt, hdr]
    by_cases h32 : T[j] = 32
    · refine ⟨k + d + 1, by omega, ?_⟩
      rw [if_pos (by rw [h32]; rfl), List.takeWhile_cons_of_neg (by rw [h32]; decide)]
      rfl
    · rw [if_neg (fun e => h32 (UInt8.toNat_inj.1 (by show (T[j]).toNat = 32; omega))), List.takeWhile_cons_of_pos (by simpa using h32), w64l (by omega) (by omega), w64l (by omega) (by omega)]
      obtain ⟨k', h1, h2⟩ := ih (j + 1) k (q + 1) (by omega) (by omega)
      refine ⟨k', h1, h2.trans ?_⟩
      rw [List.length_cons, show q + 1 + (((T.take e).drop (j + 1)).takeWhile (· ≠ 32)).length = q + ((((T.take e).drop (j + 1)).takeWhile (· ≠ 32)).length + 1) by omega]
theorem long_lines (m n : List Bool) (T : List UInt8) (hT : T.length ≤ 4398046511104) (R : Option Bool) (K0 : Nat) (hR : ∀ k, K0 < k → depotref00_SameBools.f k m n = R) : ∀ (ls : List (List UInt8)) (pre : List UInt8) (kk p : Nat), T = pre ++ unl ls → (∀ l ∈ ls, no10 l) → okL kk p ls → kk + ls.length ≤ 4398046511104 → p ≤ 4398046511104 →
    ∀ k, K0 + 2 * (unl ls).length + 2 < k → depotlaw03_DimacsLong.l0 k m (mkB T) n (pre.length : Int) (p : Int) (kk : Int) (pre.length : Int) = R
  | [], pre, kk, p, hP, hno, hok, hkk, hp, k, hk => by
    obtain ⟨k, rfl⟩ := succ_ofl hk
    have hl : T.length = pre.length := by rw [hP]; simp [unl]
    rw [depotlaw03_DimacsLong.l0, if_neg (by rw [mkB_size]; omega), hR k (by simp [unl] at hk; omega)]
    cases R <;> rfl
  | l :: ls, pre, kk, p, hP, hno, hok, hkk, hp, k, hk => by
    have hP2 : T = pre ++ (l ++ 10 :: unl ls) := hP
    have hlen : T.length = pre.length + (l.length + ((unl ls).length + 1)) := by rw [hP2]; simp
    have hul : (unl (l :: ls)).length = l.length + ((unl ls).length + 1) := by simp [unl]
    rw [hul] at hk
    have hl10 := hno l List.mem_cons_self
    obtain ⟨hok1, hok2, hok3⟩ := hok
    obtain ⟨q, rfl⟩ : ∃ q, k = (q + (l.length - 2) + 1) + 1 + l.length := ⟨k - l.length - 2 - (l.length - 2), by omega⟩
    have hget : ∀ (j : Nat) (hj : j < T.length), pre.length ≤ j → j < pre.length + l.length → T[j] ≠ 10 := by
      intro j hj h1 h2 e
      have : T[j] = l[j - pre.length]'(by omega) := by
        subst hP2
        rw [List.getElem_append_right h1, List.getElem_append_left (by omega)]
      rw [this] at e
      exact hl10 _ (List.getElem_mem _) e
    have h1 := scan_line m n T hT (pre.length : Int) (p : Int) (kk : Int) pre.length (pre.length + l.length) (by omega) hget l.length pre.length ((q + (l.length - 2) + 1) + 1) (Nat.le_refl _) (by omega) (by omega)
    rw [h1]
    have hb : T[pre.length + l.length]'(by omega) = 10 := by
      subst hP2
      rw [List.getElem_append_right (by omega)]
      rw [List.getElem_append_right (by omega)]
      simp
    have hat := Aside0.mk (show bt (mkB T) ((pre.length + l.length : Nat) : Int) = (((10 : UInt8).toNat : Nat) : Int) by rw [bt_mkl T (pre.length + l.length) (by omega), hb])
    rw [depotlaw03_DimacsLong.l0, if_pos (by rw [mkB_size]; omega), if_pos (by omega), hat.out, if_pos (show (((10 : UInt8).toNat : Nat) : Int) = 10 from rfl), show wrap64 ((pre.length : Int) + 2) = ((pre.length + 2 : Nat) : Int) from w64l (by omega) (by omega)]
    obtain ⟨k', hk', h2⟩ := word_line m n T hT (pre.length : Int) (p : Int) (kk : Int) (pre.length + l.length) (by omega) (l.length - 2) (pre.length + 2) q 0 (by omega) (by omega)
    have h2' : depotlaw03_DimacsLong.l1 (q + (l.length - 2) + 1) m (mkB T) n (pre.length : Int) (p : Int) (kk : Int) ((pre.length + l.length : Nat) : Int) 0 ((pre.length + 2 : Nat) : Int) = _ := h2
    rw [h2']
    have hfw : ((T.take (pre.length + l.length)).drop (pre.length + 2)).takeWhile (· ≠ 32) = (l.drop 2).takeWhile (· ≠ 32) := by
      have e1 : T.take (pre.length + l.length) = pre ++ l := by
        rw [hP2, ← List.append_assoc, List.take_left' (by rw [List.length_append])]
      rw [e1, List.drop_append, List.drop_of_length_le (by omega), List.nil_append, show pre.length + 2 - pre.length = 2 by omega]
    rw [hfw, Nat.zero_add]
    have hfl : ((l.drop 2).takeWhile (· ≠ 32)).length = fw l := rfl
    rw [hfl]
    have hfb : fw l ≤ l.length := by
      unfold fw
      have := (List.takeWhile_sublist (fun x : UInt8 => decide (x ≠ 32)) (l := l.drop 2)).length_le
      rw [List.length_drop] at this
      omega
    unfold fin_
    have ed := Aside0.mk (show wrap64 (((pre.length + l.length : Nat) : Int) - (pre.length : Int)) = (l.length : Int) by rw [w64l (by omega) (by omega)]; omega)
    have en := Aside0.mk (show wrap64 (((pre.length + l.length : Nat) : Int) + 1) = ((pre ++ l ++ [10]).length : Int) by rw [w64l (by omega) (by omega)]; simp; omega)
    have ek := Aside0.mk (show wrap64 ((kk : Int) + 1) = ((kk + 1 : Nat) : Int) by rw [w64l (by omega) (by omega)]; rfl)
    have ew := Aside0.mk (show wrap64 (wrap64 ((p : Int) + 1) + (fw l : Int)) = (p : Int) + 1 + (fw l : Int) by rw [w64l (x := (p : Int) + 1) (by omega) (by omega), w64l (by omega) (by omega)])
    have hrec := long_lines m n T hT R K0 hR ls (pre ++ l ++ [10]) (kk + 1) l.length (by rw [hP2]; simp) (fun x hx => hno x (List.mem_cons_of_mem _ hx)) hok3 (by simp at hkk; omega) (by omega) k' (by omega)
    rw [ed.out, en.out, ek.out, ew.out]
    clear ed en ek ew h2' h2 h1
    rw [if_neg (by omega)]
    by_cases hk1 : (kk : Int) > 1
    · have := hok2 (by omega)
      rw [if_pos hk1, if_neg (by omega)]
      exact hrec
    · rw [if_neg hk1]
      exact hrec
theorem says_last (sat : Bool) (m : List Bool) (hm : m.length ≤ 1048576) : (saysT sat m).getLast? = some 10 := by
  cases sat with
  | true => unfold saysT; rw [if_pos rfl]; simp
  | false => rfl
theorem dimacsLong_pure (sat : Bool) (m : List Bool) : ∃ k, depotlaw03_DimacsLong.f k sat m = some true := by
  by_cases hm : m.length ≤ 1048576
  · have hlen : (saysT sat m).length ≤ 30000000 := by
      cases sat with
      | true =>
        have h1 := sayS_length m m.length (by omega)
        have h2 := putR_length (sayS m m.length) (n := 0) (by decide) (by decide) h1.2
        unfold saysT
        rw [if_pos rfl]
        simp only [List.length_append, List.length_cons, List.length_nil]
        omega
      | false => show unsatT.length ≤ 30000000; decide
    have hlast := says_last sat m hm
    obtain ⟨T, hT⟩ : ∃ T, saysT sat m = T := ⟨_, rfl⟩
    have hpos : 0 < T.length := by
      rw [← hT]
      cases h : saysT sat m with
      | nil => rw [h] at hlast; cases hlast
      | cons a r => simp
    rw [hT] at hlen hlast
    obtain ⟨r, hr, hr2⟩ : ∃ r : ASt, readA (mkB T) = (r, 0, 0) ∧ r.sat = sat ∧ r.model = (if sat then m else []) := by
      rw [← hT]
      cases sat with
      | true => exact ⟨_, says_reads m hm, rfl, rfl⟩
      | false => exact ⟨_, uns_reads, rfl, rfl⟩
    have hlg : (bt (mkB T) (wrap64 (((mkB T).size : Int) - 1)) != 10) = false := by
      have e : wrap64 (((mkB T).size : Int) - 1) = ((T.length - 1 : Nat) : Int) := by rw [mkB_size, w64l (by omega) (by omega)]; omega
      rw [e, bt_mkl T _ (by omega)]
      rw [List.getLast?_eq_getElem?, List.getElem?_eq_getElem (by omega)] at hlast
      have := Option.some.inj hlast
      rw [this]
      rfl
    refine ⟨(1048577 + 2 * 30000000 + 3) + 1, ?_⟩
    generalize hK : (1048577 + 2 * 30000000 + 3 : Nat) = K
    have hKb : 61048580 ≤ K := by omega
    clear hK
    unfold depotlaw03_DimacsLong.f
    rw [if_neg (by omega), copyBools_is m (by omega) _ (by omega)]
    simp only [Option.bind_some]
    have ew : dimacs_WriteAnswer.f sat m = some (mkB T) := by
      unfold dimacs_WriteAnswer.f P.dimacs_WriteAnswer.f
      rw [if_pos hm, hT]
      rfl
    have er : dimacs_ReadAnswer.f (mkB T) = some (sat, (if sat then m else []), 0, 0) := by
      unfold dimacs_ReadAnswer.f R.dimacs_ReadAnswer.f
      rw [if_pos (by rw [mkB_size]; omega), hr, if_pos rfl]
      simp only [hr2.1, hr2.2]
    rw [ew]
    simp only [Option.bind_some]
    rw [er]
    simp only [Option.bind_some]
    have e1 : wrap64 (((mkB T).size : Int) - 1) = (T.length : Int) - 1 := by rw [mkB_size, w64l (by omega) (by omega)]
    have hsz : ((mkB T).size : Int) = (T.length : Int) := by rw [mkB_size]
    rw [hlg, e1, hsz]
    clear e1 hlg
    rw [if_pos trivial, if_pos trivial, if_neg (by simp), if_neg (by omega), if_pos (by omega), if_pos (by omega), depotlaw03_DimacsLong.j0, if_neg (by decide)]
    cases sat with
    | false => rw [if_neg (by decide)]; rfl
    | true =>
      rw [if_pos rfl]
      obtain ⟨LL, h1, h2, h3⟩ := says_lines m hm
      rw [hT] at h1
      have hn : ∀ l ∈ headLine :: LL.map vL, no10 l := by
        intro l hl
        rcases List.mem_cons.1 hl with rfl | hl
        · intro c hc; revert c; decide
        · obtain ⟨ns, _, rfl⟩ := List.mem_map.1 hl
          exact no10_vL ns
      have hcount : (headLine :: LL.map vL).length ≤ T.length := by
        rw [h1]
        have gen : ∀ ls : List (List UInt8), ls.length ≤ (unl ls).length := by
          intro ls
          induction ls with
          | nil => exact Nat.le_refl _
          | cons a r ih => simp only [unl, List.length_cons, List.length_append]; omega
        exact gen _
      have := long_lines m m T (by omega) (some true) 1048577 (fun k hk => sameBools_self m (by omega) k (by omega)) (headLine :: LL.map vL) [] 0 0 (by rw [h1]; rfl) hn h2 (by omega) (by omega) K (by rw [← h1]; omega)
      exact this
  · exact ⟨0, by unfold depotlaw03_DimacsLong.f; rw [if_pos (by omega)]⟩
end Go.Proofs.YtejdjmcdlbcmeaaDoor.T
