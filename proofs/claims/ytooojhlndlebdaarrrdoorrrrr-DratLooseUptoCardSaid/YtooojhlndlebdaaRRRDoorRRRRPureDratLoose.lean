/- The pure law DratLoose: the same words with other blanks, over other lines, with remarks between, are read as the same steps. No conditions. -/
import Derived.Test.YtooojhlndlebdaaRRRDoorRRRRPureDratBack
import Derived.Test.YtooojhlndlebdaaRRRDoorRRRRRBx3
set_option linter.unusedVariables false
set_option linter.unusedSimpArgs false
namespace Go.Proofs.YtooojhlndlebdaaRRRDoorRRRR.R
open Go.RowKit Go.Lib Go.Proofs.YtooojhlndlebdaaRRRDoorRRRRW.PrintWords Go.Proofs.YtooojhlndlebdaaRRRDoorRRRRW.PrintLast Go.Proofs.YtooojhlndlebdaaRRRDoorRRRRW.PrintMore

/-- What may stand between two words: reading goes on behind it, inside a line or at a line's start. -/
structure GapOk (g : List UInt8) : Prop where
  first : ∃ c r, g = c :: r ∧ (c = 10 ∨ blankR c.toNat = true)
  goes : ∀ (st : St) (n : Nat) (r : List UInt8), ∃ n', midF st n (g ++ r) = midF st n' r ∨ midF st n (g ++ r) = restF st n' r
  short : g.length ≤ 14
theorem remOk {l : List UInt8} (h : (l.all fun c => okB c.toNat && c != 10) = true) : ∀ c ∈ l, okB c.toNat = true ∧ c ≠ 10 := fun c hc => by
  have := List.all_eq_true.1 h c hc
  rw [Bool.and_eq_true] at this
  exact ⟨this.1, bne_iff_ne.1 this.2⟩
theorem gap0 : GapOk [32] := ⟨⟨32, [], rfl, Or.inr rfl⟩, fun st n r => ⟨n, Or.inl (midF_blank st n 32 rfl r)⟩, by decide⟩
theorem gap1 : GapOk [10] := ⟨⟨10, [], rfl, Or.inl rfl⟩, fun st n r => ⟨n + 1, Or.inr (midF_nl st n r)⟩, by decide⟩
theorem gap2 : GapOk [9, 32, 9] := ⟨⟨9, [32, 9], rfl, Or.inr rfl⟩, fun st n r => ⟨n, Or.inl (by
  have e : ([9, 32, 9] : List UInt8) ++ r = 9 :: 32 :: 9 :: r := rfl
  rw [e, midF_blank st n 9 rfl, midF_blank st n 32 rfl, midF_blank st n 9 rfl])⟩, by decide⟩
theorem gap3 : GapOk [32, 10, 10, 99, 32, 49, 32, 48, 32, 100, 32, 120, 10, 9] := ⟨⟨32, _, rfl, Or.inr rfl⟩, fun st n r => ⟨n + 1 + 1 + 1, Or.inl (by
  have e : ([32, 10, 10, 99, 32, 49, 32, 48, 32, 100, 32, 120, 10, 9] : List UInt8) ++ r = 32 :: 10 :: 10 :: (99 :: [32, 49, 32, 48, 32, 100, 32, 120] ++ 10 :: 9 :: r) := rfl
  rw [e, midF_blank st n 32 rfl, midF_nl, restF_nl, restF_rem st _ [32, 49, 32, 48, 32, 100, 32, 120] (remOk (by kernel_rfl)), restF_mid st _ 9 (by decide), midF_blank st _ 9 rfl])⟩, by decide⟩
theorem gap4 : GapOk [10, 99, 10] := ⟨⟨10, _, rfl, Or.inl rfl⟩, fun st n r => ⟨n + 1 + 1, Or.inr (by
  have e : ([10, 99, 10] : List UInt8) ++ r = 10 :: (99 :: [] ++ 10 :: r) := rfl
  rw [e, midF_nl, restF_rem st _ [] (remOk (by kernel_rfl))])⟩, by decide⟩
theorem gap5 : GapOk [10, 32, 9, 10] := ⟨⟨10, _, rfl, Or.inl rfl⟩, fun st n r => ⟨n + 1 + 1, Or.inr (by
  have e : ([10, 32, 9, 10] : List UInt8) ++ r = 10 :: 32 :: 9 :: 10 :: r := rfl
  rw [e, midF_nl, restF_mid st _ 32 (by decide), midF_blank st _ 32 rfl, midF_blank st _ 9 rfl, midF_nl])⟩, by decide⟩
theorem gap6 : GapOk [10, 99, 100, 9, 126, 32, 48, 10, 10] := ⟨⟨10, _, rfl, Or.inl rfl⟩, fun st n r => ⟨n + 1 + 1 + 1, Or.inr (by
  have e : ([10, 99, 100, 9, 126, 32, 48, 10, 10] : List UInt8) ++ r = 10 :: (99 :: [100, 9, 126, 32, 48] ++ 10 :: 10 :: r) := rfl
  rw [e, midF_nl, restF_rem st _ [100, 9, 126, 32, 48] (remOk (by kernel_rfl)), restF_nl])⟩, by decide⟩
theorem gap_is (x : Int) : ∃ g, depotlaw09_gap.f x = some (mkB g) ∧ GapOk g := by
  unfold depotlaw09_gap.f
  split
  · exact ⟨_, rfl, gap0⟩
  · split
    · exact ⟨_, rfl, gap1⟩
    · split
      · exact ⟨_, rfl, gap2⟩
      · split
        · exact ⟨_, rfl, gap3⟩
        · split
          · exact ⟨_, rfl, gap4⟩
          · split
            · exact ⟨_, rfl, gap5⟩
            · exact ⟨_, rfl, gap6⟩

/-- A word as it may stand at a line's start. -/
def WordOk (w : List UInt8) : Prop := w ≠ [] ∧ (∀ c ∈ w, blankR c.toNat = false ∧ c ≠ 10) ∧ (∃ c r, w = c :: r ∧ c ≠ 99) ∧ w.length ≤ 21
def flat (ps : List (List UInt8 × List UInt8)) : List UInt8 := ps.flatMap fun p => p.1 ++ p.2
theorem flat_cons (p : List UInt8 × List UInt8) (ps : List (List UInt8 × List UInt8)) : flat (p :: ps) = p.1 ++ p.2 ++ flat ps := by unfold flat; simp
theorem flat_snoc (p : List UInt8 × List UInt8) (ps : List (List UInt8 × List UInt8)) : flat (ps ++ [p]) = flat ps ++ p.1 ++ p.2 := by unfold flat; rw [List.flatMap_append]; simp
def Good (ps : List (List UInt8 × List UInt8)) : Prop := ∀ p ∈ ps, WordOk p.1 ∧ GapOk p.2
theorem flat_length (ps : List (List UInt8 × List UInt8)) (h : Good ps) : (flat ps).length ≤ 35 * ps.length := by
  induction ps with
  | nil => simp [flat]
  | cons p ps ih =>
    have h1 := h p List.mem_cons_self
    have h2 := ih (fun q hq => h q (List.mem_cons_of_mem _ hq))
    have h3 := h1.1.2.2.2
    have h4 := h1.2.short
    rw [flat_cons, List.length_append, List.length_append, List.length_cons]
    omega
theorem read_flat (ps : List (List UInt8 × List UInt8)) : ∀ (st st' : St) (n : Nat), Good ps → takesF st (ps.map fun p => mkB p.1) = (st', true) → st'.begun = false → restF st n (flat ps) = (st', 0) ∧ midF st n (flat ps) = (st', 0) := by
  induction ps with
  | nil =>
    intro st st' n _ ht hb
    obtain rfl : st = st' := congrArg Prod.fst ht
    constructor
    · rw [show flat [] = [] from rfl, restF_nil, hb]; rfl
    · rw [show flat [] = [] from rfl, midF_nil, restF_nil, hb]; rfl
  | cons p ps ih =>
    intro st st' n h ht hb
    obtain ⟨⟨hw0, hw1, ⟨c, q, hc, hc99⟩, _⟩, hg⟩ := h p List.mem_cons_self
    have hps : Good ps := fun q hq => h q (List.mem_cons_of_mem _ hq)
    obtain ⟨b, r, hbr, hb1⟩ := hg.first
    have hmid : midF st n (flat (p :: ps)) = (st', 0) := by
      rw [flat_cons, hbr, List.append_assoc, List.cons_append, midF_word st n p.1 hw0 hw1 b hb1]
      simp only [List.map_cons, takesF] at ht
      cases hk : takeF st (mkB p.1) with
      | none => rw [hk] at ht; cases ht
      | some st1 =>
        rw [hk] at ht
        simp only at ht ⊢
        obtain ⟨n', hn⟩ := hg.goes st1 n (flat ps)
        rw [hbr, List.cons_append] at hn
        have := ih st1 st' n' hps ht hb
        rcases hn with hn | hn
        · rw [hn]; exact this.2
        · rw [hn]; exact this.1
    refine ⟨?_, hmid⟩
    have : flat (p :: ps) = c :: (q ++ p.2 ++ flat ps) := by rw [flat_cons, hc]; simp
    rw [this, restF_mid st n c hc99, ← this]
    exact hmid

/-- The words of a step. -/
def wordsS (s : S33) : List (List UInt8) := (if s.f0 then [[100]] else []) ++ s.f1.map itoa ++ [[48]]
def wordsA (l : List S33) : List (List UInt8) := l.flatMap wordsS
theorem takes_lits (l : List Int) (r : List ByteArray) : ∀ st : St, l.all litOk = true → takesF st ((l.map itoa).map mkB ++ mkB [48] :: r) = takesF ⟨st.steps ++ [⟨st.drop, st.lits ++ l⟩], false, false, []⟩ r := by
  induction l with
  | nil =>
    intro st _
    simp only [List.map_nil, List.nil_append, takesF, takeF_0, List.append_nil]
  | cons x l ih =>
    intro st h
    rw [List.all_cons, Bool.and_eq_true] at h
    simp only [List.map_cons, List.cons_append, takesF, takeF_lit st x h.1]
    rw [ih _ h.2]
    simp
theorem takes_step (s : S33) (r : List ByteArray) (st : St) (h : s.f1.all litOk = true) (hb : st.begun = false) (hd : st.drop = false) (hl : st.lits = []) : takesF st ((wordsS s).map mkB ++ r) = takesF ⟨st.steps ++ [s], false, false, []⟩ r := by
  obtain ⟨d, l⟩ := s
  unfold wordsS
  cases d with
  | false =>
    have := takes_lits l r st h
    rw [hd, hl] at this
    simpa using this
  | true =>
    have := takes_lits l r ⟨st.steps, true, true, st.lits⟩ h
    rw [hl] at this
    simpa [takesF, takeF_d st hb, hl] using this
theorem takes_all (l : List S33) : ∀ st : St, (∀ s ∈ l, soundS s = true) → st.begun = false → st.drop = false → st.lits = [] → takesF st ((wordsA l).map mkB) = (⟨st.steps ++ l, false, false, []⟩, true) := by
  induction l with
  | nil =>
    intro st _ hb hd hl
    obtain ⟨a, b, c, d⟩ := st
    simp only at hb hd hl
    subst hb hd hl
    simp [wordsA, takesF]
  | cons s l ih =>
    intro st h hb hd hl
    have e : (wordsA (s :: l)).map mkB = (wordsS s).map mkB ++ (wordsA l).map mkB := by unfold wordsA; simp
    rw [e, takes_step s _ st (h s List.mem_cons_self) hb hd hl, ih _ (fun x hx => h x (List.mem_cons_of_mem _ hx)) rfl rfl rfl]
    simp
theorem wordok_d : WordOk [100] := ⟨by decide, by decide, ⟨100, [], rfl, by decide⟩, by decide⟩
theorem wordok_0 : WordOk [48] := ⟨by decide, by decide, ⟨48, [], rfl, by decide⟩, by decide⟩
theorem wordok_itoa (x : Int) (h : litOk x = true) : WordOk (itoa x) := by
  have hr := litOk_range h
  exact ⟨(itoa_bytes x).1, itoa_wordy x, itoa_first x, Lib.itoa_length_le x (by omega) (by omega)⟩
theorem wordsS_ok (s : S33) (h : soundS s = true) : ∀ w ∈ wordsS s, WordOk w := by
  intro w hw
  unfold wordsS at hw
  rcases List.mem_append.1 hw with hw | hw
  · rcases List.mem_append.1 hw with hw | hw
    · split at hw
      · rw [List.mem_singleton.1 hw]; exact wordok_d
      · cases hw
    · obtain ⟨x, hx, rfl⟩ := List.mem_map.1 hw
      exact wordok_itoa x (List.all_eq_true.1 h x hx)
  · rw [List.mem_singleton.1 hw]; exact wordok_0
theorem wordsS_length (s : S33) : (wordsS s).length ≤ s.f1.length + 2 := by
  unfold wordsS
  rw [List.length_append, List.length_append, List.length_map]
  split <;> simp <;> omega
theorem wordsA_length : ∀ l : List S33, (wordsA l).length ≤ 2 * bulkS l
  | [] => by simp [wordsA]
  | s :: l => by
    have h1 := wordsA_length l
    have h2 := wordsS_length s
    have e : wordsA (s :: l) = wordsS s ++ wordsA l := by unfold wordsA; simp
    rw [e, List.length_append]
    simp only [bulkS]
    omega

/-- Bytes as numbers. -/
def nums (t : List UInt8) : List Int := t.map fun b => (b.toNat : Int)
theorem nums_append (a b : List UInt8) : nums (a ++ b) = nums a ++ nums b := List.map_append
theorem nums_length (a : List UInt8) : (nums a).length = a.length := List.length_map ..
theorem bytesOf_nums (a : List UInt8) : bytesOf (mkB a) = nums a := rfl
theorem strOf_nums (a : List UInt8) : strOfNums (nums a) = mkB a := by
  unfold strOfNums nums mkB
  rw [List.map_map]
  congr 2
  conv => rhs; rw [← List.map_id a]
  apply List.map_congr_left
  intro b _
  simp

/-- The words of one step, each with what stands behind it. -/
theorem loose_l2 (L : List S33) (G : List Int) (t : Nat) (W : List (List UInt8)) (hW : ∀ w ∈ W, WordOk w) (hG : G.length ≤ 1048576) (m : Nat) (hm : m + W.length ≤ 4194304) (ht : t ≤ 1048576) (K : Nat) (Q : List (List UInt8))
    (hr : ∀ k ps, K < k → Good ps → ps.map (·.1) = Q ++ W → ps.length = m + W.length → depotlaw09_DratLoose.l0 k L G (nums (flat ps)) (ps.length : Int) ((t + 1 : Nat) : Int) = some true) (d : Nat) :
    ∀ (k j : Nat) (ps : List (List UInt8 × List UInt8)), j ≤ W.length → W.length - j = d → d + K + 1 < k → Good ps → ps.map (·.1) = Q ++ W.take j → ps.length = m + j →
      depotlaw09_DratLoose.l2 k L G (nums (flat ps)) (ps.length : Int) (t : Int) (W.map mkB) (j : Int) = some true := by
  induction d with
  | zero =>
    intro k j ps h0 hd hk hg hp hl
    obtain ⟨k, rfl⟩ := succ_ofr hk
    obtain rfl : j = W.length := by omega
    rw [depotlaw09_DratLoose.l2, if_neg (by rw [List.length_map]; omega), w64r (by omega) (by omega)]
    exact hr k ps (by omega) hg (by rw [hp, List.take_length]) hl
  | succ d ih =>
    intro k j ps h0 hd hk hg hp hl
    obtain ⟨k, rfl⟩ := succ_ofr hk
    have hj : j < W.length := by omega
    have hjm : j < (W.map mkB).length := by rw [List.length_map]; exact hj
    have hwj := hW W[j] (List.getElem_mem hj)
    have hfl := flat_length ps hg
    have hwl := hwj.2.2.2
    have next : ∀ g, GapOk g → ∀ k, d + K + 1 < k → depotlaw09_DratLoose.l2 k L G (nums (flat ps) ++ bytesOf (mkB W[j]) ++ bytesOf (mkB g)) ((ps.length + 1 : Nat) : Int) (t : Int) (W.map mkB) ((j + 1 : Nat) : Int) = some true := by
      intro g hgap k hk
      have e : nums (flat ps) ++ bytesOf (mkB W[j]) ++ bytesOf (mkB g) = nums (flat (ps ++ [(W[j], g)])) := by rw [flat_snoc, nums_append, nums_append, bytesOf_nums, bytesOf_nums]
      have := ih k (j + 1) (ps ++ [(W[j], g)]) (by omega) (by omega) hk (fun p hp => by
        rcases List.mem_append.1 hp with hp | hp
        · exact hg p hp
        · rw [List.mem_singleton.1 hp]; exact ⟨hwj, hgap⟩) (by rw [List.map_append, hp, take_succr hj, List.append_assoc]; rfl) (by simp; omega)
      rw [e]
      rw [List.length_append] at this
      exact this
    have E1 := Aside0.mk (show wrap64 ((j : Int) + 1) = ((j + 1 : Nat) : Int) by rw [w64r (by omega) (by omega)]; omega)
    have E2 := Aside0.mk (show wrap64 ((ps.length : Int) + 1) = ((ps.length + 1 : Nat) : Int) by rw [w64r (by omega) (by omega)]; omega)
    have NEXT := Aside0.mk next
    clear next
    have e3 : rdOf ByteArray.empty (W.map mkB) (j : Int) = mkB W[j] := by rw [rdOf_natr hjm, List.getElem_map]
    have hb1 : (bytesOf (mkB W[j])).length = W[j].length := by rw [bytesOf_nums, nums_length]
    rw [depotlaw09_DratLoose.l2, if_pos (by rw [List.length_map]; omega), if_pos (by omega), e3, if_pos (by rw [nums_length, mkB_size]; omega)]
    simp only [Option.bind_some]
    by_cases hx : (ps.length : Int) < (G.length : Int)
    · rw [if_pos hx, if_pos (by omega)]
      obtain ⟨g, hgf, hgo⟩ := gap_is (rd G (ps.length : Int))
      have hgl := hgo.short
      rw [hgf]
      simp only [Option.bind_some]
      rw [if_pos (by rw [List.length_append, nums_length, hb1, mkB_size]; omega), E1.out, E2.out]
      exact NEXT.out g hgo k (by omega)
    · rw [if_neg hx, if_pos (by rw [List.length_append, nums_length, hb1]; omega), E1.out, E2.out]
      exact NEXT.out [32] gap0 k (by omega)
theorem loose_l1 (L : List S33) (G : List Int) (t : Nat) (ht : t < L.length) (hL : L.length ≤ 1048576) (hc : L[t].f1.length ≤ 1048576) (hs : soundS L[t] = true) (x5 : List Int) (x6 : Int) (pre : List ByteArray) (hpre : pre.length ≤ 1) (K : Nat)
    (hr : ∀ k, K < k → depotlaw09_DratLoose.l2 k L G x5 x6 (t : Int) (pre ++ (L[t].f1.map itoa).map mkB ++ [mkB [48]]) 0 = some true) (d : Nat) :
    ∀ (k i : Nat), i ≤ L[t].f1.length → L[t].f1.length - i = d → d + K + 1 < k → depotlaw09_DratLoose.l1 k L G x5 x6 (t : Int) (pre ++ ((L[t].f1.take i).map itoa).map mkB) (i : Int) = some true := by
  induction d with
  | zero =>
    intro k i h0 hd hk
    obtain ⟨k, rfl⟩ := succ_ofr hk
    obtain rfl : i = L[t].f1.length := by omega
    rw [depotlaw09_DratLoose.l1, if_pos (by omega), if_pos (by omega), rdT_natr ht, if_neg (by omega), List.take_length, if_pos (by rw [List.length_append, List.length_map, List.length_map]; omega)]
    exact hr k (by omega)
  | succ d ih =>
    intro k i h0 hd hk
    obtain ⟨k, rfl⟩ := succ_ofr hk
    have hi : i < L[t].f1.length := by omega
    have hx := litOk_range (List.all_eq_true.1 hs L[t].f1[i] (List.getElem_mem hi))
    have E1 := Aside0.mk (show wrap64 ((i : Int) + 1) = ((i + 1 : Nat) : Int) by rw [w64r (by omega) (by omega)]; omega)
    have e2 : strconv_Itoa_18.f L[t].f1[i] = some (mkB (itoa L[t].f1[i])) := by
      unfold strconv_Itoa_18.f
      rw [if_pos (by omega)]
      rfl
    rw [depotlaw09_DratLoose.l1, if_pos (by omega), if_pos (by omega), rdT_natr ht, if_pos (by omega), if_pos (by omega), rd_natr hi, e2]
    simp only [Option.bind_some]
    rw [if_pos (by rw [List.length_append, List.length_map, List.length_map, List.length_take]; omega), E1.out]
    have e3 : pre ++ ((L[t].f1.take i).map itoa).map mkB ++ [mkB (itoa L[t].f1[i])] = pre ++ ((L[t].f1.take (i + 1)).map itoa).map mkB := by
      rw [take_succr hi, List.map_append, List.map_append, ← List.append_assoc]
      rfl
    rw [e3]
    exact ih k (i + 1) (by omega) (by omega) (by omega)
theorem wordsA_take (L : List S33) (t : Nat) (ht : t < L.length) : wordsA (L.take (t + 1)) = wordsA (L.take t) ++ wordsS L[t] := by
  rw [take_succr ht]
  unfold wordsA
  rw [List.flatMap_append]
  simp
theorem bulkS_take (L : List S33) (t : Nat) : bulkS (L.take t) ≤ bulkS L := by
  have : bulkS L = bulkS (L.take t) + bulkS (L.drop t) := by rw [← bulkS_append, List.take_append_drop]
  omega
def fl (d : Nat) : Nat := d * 10000000 + 10000000000
theorem fl_succ (d : Nat) : fl (d + 1) = fl d + 10000000 := by unfold fl; omega
theorem fl_ge (d : Nat) : 10000000000 ≤ fl d := by unfold fl; omega
theorem fl_le (d : Nat) (h : d ≤ 1048576) : fl d ≤ 10495760000000 + 10000000000 := by unfold fl; omega
theorem loose_l0 (L : List S33) (G : List Int) (hb : bulkS L ≤ 1048576) (hG : G.length ≤ 1048576) (hs : ∀ s ∈ L, soundS s = true) (d : Nat) :
    ∀ (k t : Nat) (ps : List (List UInt8 × List UInt8)), t ≤ L.length → L.length - t = d → fl d < k → Good ps → ps.map (·.1) = wordsA (L.take t) →
      depotlaw09_DratLoose.l0 k L G (nums (flat ps)) (ps.length : Int) (t : Int) = some true := by
  have hl := bulkS_len L
  induction d with
  | zero =>
    intro k t ps h0 hd hk hg hp
    obtain ⟨k, rfl⟩ := succ_ofr hk
    have hm : ∀ s ∈ L, s.f1.length ≤ 1048576 := fun s hs => by have := bulkS_mem hs; omega
    have hwl := wordsA_length (L.take t)
    rw [List.take_of_length_le (show L.length ≤ t by omega)] at hp hwl
    have hpl : ps.length ≤ 2 * bulkS L := by
      have := congrArg List.length hp
      rw [List.length_map] at this
      omega
    have hfl := flat_length ps hg
    have hf0 := fl_ge 0
    have htk := takes_all L st0 hs rfl rfl rfl
    have hpm : (ps.map fun p => mkB p.1) = (wordsA L).map mkB := by rw [← hp, List.map_map]; rfl
    rw [← hpm] at htk
    have hrd := (read_flat ps st0 _ 0 hg htk rfl).1
    have e : drat_Read.f (mkB (flat ps)) = some (L, 0, 0) := by
      unfold drat_Read.f
      rw [if_pos (by rw [mkB_size]; omega), readF_mkB, hrd]
      simp [st0]
    rw [depotlaw09_DratLoose.l0, if_neg (by omega), strOf_nums, e]
    simp only [Option.bind_some]
    rw [if_pos trivial, if_pos trivial, sameSteps_self L 1048576 hm (by omega) (by omega) k (by omega)]
    rfl
  | succ d ih =>
    intro k t ps h0 hd hk hg hp
    obtain ⟨k, rfl⟩ := succ_ofr hk
    have hfs := fl_succ d
    obtain ⟨k, rfl⟩ := succ_ofr (show fl d < k by omega)
    obtain ⟨K1, hK1⟩ : ∃ K1 : Nat, K1 = fl d + 3000000 := ⟨_, rfl⟩
    obtain ⟨K2, hK2⟩ : ∃ K2 : Nat, K2 = fl d + 5000000 := ⟨_, rfl⟩
    obtain ⟨K0, hK0⟩ : ∃ K0 : Nat, K0 = fl d := ⟨_, rfl⟩
    have ht : t < L.length := by omega
    have hst := hs L[t] (List.getElem_mem ht)
    have hc : L[t].f1.length ≤ 1048576 := by have := bulkS_mem (List.getElem_mem ht); omega
    have hwl := wordsA_length (L.take t)
    have hbt := bulkS_take L t
    have hpl : ps.length ≤ 2 * bulkS L := by
      have := congrArg List.length hp
      rw [List.length_map] at this
      omega
    have hws := wordsS_length L[t]
    have key : ∀ k, K1 < k → depotlaw09_DratLoose.l2 k L G (nums (flat ps)) (ps.length : Int) (t : Int) ((wordsS L[t]).map mkB) 0 = some true := by
      intro k hk
      refine loose_l2 L G t (wordsS L[t]) (wordsS_ok L[t] hst) hG ps.length (by omega) (by omega) K0 (wordsA (L.take t)) (fun k ps' hk hg' hp' hl' => ?_) (wordsS L[t]).length k 0 ps (by omega) (by omega) (by omega) hg (by rw [hp, List.take_zero, List.append_nil]) rfl
      exact ih k (t + 1) ps' (by omega) (by omega) (by omega) hg' (by rw [hp', wordsA_take L t ht])
    have j1 : ∀ (pre : List ByteArray), pre.length ≤ 1 → pre ++ (L[t].f1.map itoa).map mkB ++ [mkB [48]] = (wordsS L[t]).map mkB → ∀ k, K2 < k → depotlaw09_DratLoose.j1 k L G (nums (flat ps)) (ps.length : Int) (t : Int) pre = some true := by
      intro pre hpre e k hk
      obtain ⟨k, rfl⟩ := succ_ofr hk
      have := loose_l1 L G t ht (by omega) hc hst (nums (flat ps)) (ps.length : Int) pre hpre (K1) (fun k hk => by rw [e]; exact key k hk) L[t].f1.length k 0 (by omega) (by omega) (by omega)
      rw [List.take_zero] at this
      rw [depotlaw09_DratLoose.j1]
      simpa using this
    rw [depotlaw09_DratLoose.l0, if_pos (by omega), if_pos (by omega), rdT_natr ht]
    cases hf : L[t].f0 with
    | true =>
      rw [if_pos rfl, if_pos (by simp)]
      exact j1 _ (by simp) (by unfold wordsS; rw [hf]; simp [mkB]) (k + 1) (by omega)
    | false =>
      rw [if_neg (by decide)]
      exact j1 [] (by simp) (by unfold wordsS; rw [hf]; simp) (k + 1) (by omega)
theorem dratLoose_pure (L : List S33) (G : List Int) (hb : bulkS L ≤ 1048576) (hG : G.length ≤ 1048576) : ∃ k, depotlaw09_DratLoose.f k L G = some true := by
  obtain ⟨K, hK⟩ : ∃ K : Nat, 20000000000000 < K := ⟨20000000000001, by omega⟩
  refine ⟨K, ?_⟩
  have hl := bulkS_len L
  have hm : ∀ s ∈ L, s.f1.length ≤ 1048576 := fun s hs => by have := bulkS_mem hs; omega
  unfold depotlaw09_DratLoose.f
  rw [soundL_is L hm (by omega) K (by omega)]
  simp only [Option.bind_some]
  cases h : L.all soundS with
  | false => rw [if_neg (by decide)]
  | true =>
    rw [if_pos rfl]
    have hfl := fl_le L.length (by omega)
    exact loose_l0 L G hb hG (fun s hs => List.all_eq_true.1 h s hs) L.length K 0 [] (by omega) (by omega) (by omega) (fun p hp => by cases hp) (by simp [wordsA])
end Go.Proofs.YtooojhlndlebdaaRRRDoorRRRR.R
