/- dimacs' (*teller).first and (*teller).line: the walks. No conditions. dimacs.ReadAnswer: what it comes to, for every text of at most 4294967280 bytes. No conditions. -/
import Derived.Test.YtejdjmcdlbcmeaaDoorReadD
section
set_option linter.unusedVariables false
set_option linter.unusedSimpArgs false
namespace Go.Proofs.YtejdjmcdlbcmeaaDoor.R
open Go.RowKit Go.Lib Go.Proofs.YtejdjmcdlbcmeaaDoorW.PrintWords Go.Proofs.YtejdjmcdlbcmeaaDoorW.PrintLast Go.Proofs.YtejdjmcdlbcmeaaDoorW.PrintMore

def kS : List UInt8 := [115]
def kV : List UInt8 := [118]
def kSat : List UInt8 := [83, 65, 84, 73, 83, 70, 73, 65, 66, 76, 69]
def kUns : List UInt8 := [85, 78, 83, 65, 84, 73, 83, 70, 73, 65, 66, 76, 69]
/-- What has been read of an answer. -/
structure ASt where
  told : Bool
  sat : Bool
  model : List Bool
  ended : Bool
def ast0 : ASt := ⟨false, false, [], false⟩
/-- The teller's block and what hangs on it. -/
structure AfV (w0 ws : World) (g : Nat) (vm : Value) (st : ASt) (w : World) : Prop where
  blk : w.heap[g]? = some (.cells #[.bool st.told, .bool st.sat, vm, .bool st.ended] 68 (0, 0))
  l : Kd.R Kd.bool 4 w w0.heap.size (fun k_ => k_ ≠ g) vm st.model
  below : Below w0.heap.size w0 w
  le : w0.heap.size ≤ g
  k9 : K9 ws w
theorem AfV.on {w0 ws w w' : World} {g : Nat} {vm : Value} {st : ASt} (h : AfV w0 ws g vm st w) (hb : Below w.heap.size w w') : AfV w0 ws g vm st w' :=
  ⟨(hb.block g (blk_lt h.blk)).trans h.blk, Kd.R_below h.l hb, h.below.trans (hb.mono h.below.size), h.le, h.k9.below hb⟩
/-- The teller is in the state st. -/
def Af (w0 ws : World) (g : Nat) (st : ASt) (w : World) : Prop := ∃ vm, AfV w0 ws g vm st w
theorem AfV.first {w0 ws w : World} {g : Nat} {vm : Value} {st : ASt} (h : AfV w0 ws g vm st w) (b : Bool) :
    AfV w0 ws g vm ⟨true, b, st.model, st.ended⟩ ((w.setCell ⟨g, 0, none⟩ (.bool true)).setCell ⟨g, 1, none⟩ (.bool b)) := by
  have b1 := blk_put h.blk 0 (.bool true) rfl
  have b2 := blk_put b1 1 (.bool b) rfl
  exact ⟨b2, Kd.R_far (Kd.R_far h.l (fun k hk => hk) _) (fun k hk => hk) _, ((h.below.setCell (p := ⟨g, 0, none⟩) h.le _).setCell (p := ⟨g, 1, none⟩) h.le _), h.le, (h.k9.put h.blk (by decide) _ _).put b1 (by decide) _ _⟩
theorem AfV.ends {w0 ws w : World} {g : Nat} {vm : Value} {st : ASt} (h : AfV w0 ws g vm st w) :
    AfV w0 ws g vm ⟨st.told, st.sat, st.model, true⟩ (w.setCell ⟨g, 3, none⟩ (.bool true)) :=
  ⟨blk_put h.blk 3 (.bool true) rfl, Kd.R_far h.l (fun k hk => hk) _, h.below.setCell (p := ⟨g, 3, none⟩) h.le _, h.le, h.k9.put h.blk (by decide) _ _⟩
theorem AfV.appended {w0 ws w w1 : World} {g : Nat} {vm v1 : Value} {st : ASt} {b : Bool} (h : AfV w0 ws g vm st w)
    (ho : Kd.R Kd.bool 4 w1 w0.heap.size (fun k_ => k_ ≠ g) v1 (st.model ++ [b])) (hb : Below w0.heap.size w0 w1) (hg : w.grownBy w1 vm.ownBlock) :
    AfV w0 ws g v1 ⟨st.told, st.sat, st.model ++ [b], st.ended⟩ (w1.setCell ⟨g, 2, none⟩ v1) := by
  have hbk := blk_grown h.blk hg (Kd.R_ne h.l h.blk (by decide))
  exact ⟨blk_put hbk 2 _ rfl, Kd.R_far ho (fun k hk => hk) _, hb.setCell (p := ⟨g, 2, none⟩) h.le _, h.le, (h.k9.grown hg (Kd.R_typed h.l) (by decide)).put hbk (by decide) _ _⟩

def w_ (ws : List ByteArray) (i : Nat) : ByteArray := ws.getD i ByteArray.empty
/-- The first line that isn't idle. -/
def firstA (st : ASt) (ws : List ByteArray) : ASt × Int :=
  if ws.length = 2 then (if (w_ ws 0).toList = kS then (if (w_ ws 1).toList = kSat then (⟨true, true, st.model, st.ended⟩, 0) else if (w_ ws 1).toList = kUns then (⟨true, false, st.model, st.ended⟩, 0) else (st, 35)) else (st, 35)) else (st, 35)
/-- The next word of a line of values. -/
def wordA (st : ASt) (w : ByteArray) : ASt × Int :=
  if st.ended then (st, 35)
  else if (numR w).2 = false then (st, 31)
  else if (numR w).1 = 0 then (⟨st.told, st.sat, st.model, true⟩, 0)
  else if st.model.length + 1 ≤ 1048576 ∧ ((numR w).1 = (st.model.length : Int) + 1 ∨ (numR w).1 = -((st.model.length : Int) + 1)) then (⟨st.told, st.sat, st.model ++ [decide (0 < (numR w).1)], st.ended⟩, 0)
  else (st, 32)
def wordsA (st : ASt) : List ByteArray → ASt × Int
  | [] => (st, 0)
  | w :: r => if (wordA st w).2 = 0 then wordsA (wordA st w).1 r else wordA st w
def lineA (st : ASt) (ws : List ByteArray) : ASt × Int :=
  if st.told = false then firstA st ws
  else if st.sat = false then (st, 35)
  else if (w_ ws 0).toList = kV then wordsA st (ws.drop 1)
  else (st, 35)
theorem wordA_length (st : ASt) (w : ByteArray) (h : st.model.length ≤ 1048576) : (wordA st w).1.model.length ≤ 1048576 := by
  unfold wordA
  split
  · exact h
  · split
    · exact h
    · split
      · exact h
      · split
        · rename_i hc; simp only [List.length_append, List.length_cons, List.length_nil]; omega
        · exact h
theorem wordsA_length (ws : List ByteArray) : ∀ st : ASt, st.model.length ≤ 1048576 → (wordsA st ws).1.model.length ≤ 1048576 := by
  induction ws with
  | nil => intro st h; exact h
  | cons w r ih =>
    intro st h
    simp only [wordsA]
    split
    · exact ih _ (wordA_length st w h)
    · exact wordA_length st w h
theorem lineA_length (st : ASt) (ws : List ByteArray) (h : st.model.length ≤ 1048576) : (lineA st ws).1.model.length ≤ 1048576 := by
  unfold lineA firstA
  repeat' split
  all_goals first | exact h | exact wordsA_length _ _ h
theorem w_at {w w' : World} {base A : Nat} {ws : List ByteArray} {n c : Nat} (h : w.ownsRow base 9 1 (.slice (some ⟨A, 0, none⟩) n c) n (ws.map Value.string)) (hk : K9 w w') (j : Nat) (hj : j < ws.length) : w'.cell? ⟨A, j, none⟩ = some (.string (w_ ws j)) := by
  have := words_row h hk j hj
  unfold w_
  rw [List.getD_eq_getElem?_getD, List.getElem?_eq_getElem hj]
  exact this
set_option maxHeartbeats 8000000 in
set_option maxRecDepth 100000 in
theorem first_walk (w0 : World) (g : Nat) (st : ASt) (w : World) (A c base : Nat) (ws : List ByteArray) (hR : Af w0 w g st w) (hrow : w.ownsRow base 9 1 (.slice (some ⟨A, 0, none⟩) ws.length c) ws.length (ws.map Value.string)) (hlen : ws.length ≤ 1000000000000) :
    Calls Tryd.prog 63 #[.pointer (some ⟨g, 0, none⟩), .slice (some ⟨A, 0, none⟩) ws.length c] w fun e w' => e = .returned (.int .i64 (firstA st ws).2) ∧ Af w0 w g (firstA st ws).1 w' := by
  obtain ⟨vm, hV0⟩ := hR
  have f0 := blk_frozen hV0.blk 0
  have f1 := blk_frozen hV0.blk 1
  have b0 : w.cell? ⟨g, 0, none⟩ = some (.bool st.told) := (blk_cell hV0.blk 0).trans rfl
  have b1 : w.cell? ⟨g, 1, none⟩ = some (.bool st.sat) := (blk_cell hV0.blk 1).trans rfl
  have HV := Aside0.mk hV0
  by_cases hl : ws.length = 2
  · have x0 := w_at hrow (K9.refl w) 0 (by omega)
    have x1 := w_at hrow (K9.refl w) 1 (by omega)
    have hf : firstA st ws = (if (w_ ws 0).toList = kS then (if (w_ ws 1).toList = kSat then (⟨true, true, st.model, st.ended⟩, 0) else if (w_ ws 1).toList = kUns then (⟨true, false, st.model, st.ended⟩, 0) else (st, 35)) else (st, 35)) := by unfold firstA; rw [if_pos hl]
    rw [hf, hl]
    obtain ⟨p, hp⟩ : ∃ p, w_ ws 0 = p := ⟨_, rfl⟩
    obtain ⟨q, hq⟩ : ∃ q, w_ ws 1 = q := ⟨_, rfl⟩
    rw [hp] at x0
    rw [hq] at x1
    rw [hp, hq]
    clear hV0 hrow hl hp hq hf
    by_cases h0 : p.toList = kS
    · rw [if_pos h0]
      have c0 : (p.toList == [115]) = true := beq_iff_eq.2 h0
      have c1 : (p.toList != [115]) = false := bne_eq_false_iff_eq.2 h0
      clear h0
      by_cases h1 : q.toList = kSat
      · rw [if_pos h1]
        have d0 : (q.toList == [83, 65, 84, 73, 83, 70, 73, 65, 66, 76, 69]) = true := beq_iff_eq.2 h1
        have d1 : (q.toList != [83, 65, 84, 73, 83, 70, 73, 65, 66, 76, 69]) = false := bne_eq_false_iff_eq.2 h1
        clear h1
        go_enter Tryd.func63, Tryd.ntmps63
        go_wp2_with fail
        go_ret
        exact ⟨rfl, vm, HV.out.first true⟩
      · rw [if_neg h1]
        have d0 : (q.toList == [83, 65, 84, 73, 83, 70, 73, 65, 66, 76, 69]) = false := beq_eq_false_iff_ne.2 h1
        have d1 : (q.toList != [83, 65, 84, 73, 83, 70, 73, 65, 66, 76, 69]) = true := bne_iff_ne.2 h1
        clear h1
        by_cases h2 : q.toList = kUns
        · rw [if_pos h2]
          have e0 : (q.toList == [85, 78, 83, 65, 84, 73, 83, 70, 73, 65, 66, 76, 69]) = true := beq_iff_eq.2 h2
          have e1 : (q.toList != [85, 78, 83, 65, 84, 73, 83, 70, 73, 65, 66, 76, 69]) = false := bne_eq_false_iff_eq.2 h2
          clear h2
          go_enter Tryd.func63, Tryd.ntmps63
          go_wp2_with fail
          go_ret
          exact ⟨rfl, vm, HV.out.first false⟩
        · rw [if_neg h2]
          have e0 : (q.toList == [85, 78, 83, 65, 84, 73, 83, 70, 73, 65, 66, 76, 69]) = false := beq_eq_false_iff_ne.2 h2
          have e1 : (q.toList != [85, 78, 83, 65, 84, 73, 83, 70, 73, 65, 66, 76, 69]) = true := bne_iff_ne.2 h2
          clear h2
          go_enter Tryd.func63, Tryd.ntmps63
          go_wp2_with fail
          go_ret
          exact ⟨rfl, vm, HV.out⟩
    · rw [if_neg h0]
      have c0 : (p.toList == [115]) = false := beq_eq_false_iff_ne.2 h0
      have c1 : (p.toList != [115]) = true := bne_iff_ne.2 h0
      clear h0
      go_enter Tryd.func63, Tryd.ntmps63
      go_wp2_with fail
      go_ret
      exact ⟨rfl, vm, HV.out⟩
  · have hf : firstA st ws = (st, 35) := by unfold firstA; rw [if_neg hl]
    rw [hf]
    have c0 : ((ws.length : Int) == 2) = false := beq_eq_false_iff_ne.2 (by omega)
    have c1 : ((ws.length : Int) != 2) = true := bne_iff_ne.2 (by omega)
    clear hV0 hrow hf hl
    go_enter Tryd.func63, Tryd.ntmps63
    go_wp2_with fail
    go_ret
    exact ⟨rfl, vm, HV.out⟩
theorem wordsA_drop (ws : List ByteArray) (st : ASt) (j : Nat) (hj : j < ws.length) : wordsA st (ws.drop j) = if (wordA st ws[j]).2 = 0 then wordsA (wordA st ws[j]).1 (ws.drop (j + 1)) else wordA st ws[j] := by
  rw [List.drop_eq_getElem_cons hj, wordsA]
set_option maxHeartbeats 8000000 in
set_option maxRecDepth 100000 in
theorem tell_words (w0 : World) (g : Nat) (st : ASt) (w : World) (A c base : Nat) (ws : List ByteArray) (hR : Af w0 w g st w) (hrow : w.ownsRow base 9 1 (.slice (some ⟨A, 0, none⟩) ws.length c) ws.length (ws.map Value.string)) (hz : ∀ x ∈ ws, x.size ≤ 4294967296)
    (ht : st.told = true) (hsat : st.sat = true) (hv : (w_ ws 0).toList = kV) (hn : 0 < ws.length) (hlen : ws.length ≤ 1000000000000) (hm : st.model.length ≤ 1048576) :
    Calls Tryd.prog 43 #[.pointer (some ⟨g, 0, none⟩), .slice (some ⟨A, 0, none⟩) ws.length c] w fun e w' => e = .returned (.int .i64 (wordsA st (ws.drop 1)).2) ∧ Af w0 w g (wordsA st (ws.drop 1)).1 w' := by
  obtain ⟨R, hRR⟩ : ∃ R, wordsA st (ws.drop 1) = R := ⟨_, rfl⟩
  rw [hRR]
  have HRR := Aside0.mk hRR
  clear hRR
  obtain ⟨vm, hV0⟩ := hR
  have b0 : w.cell? ⟨g, 0, none⟩ = some (.bool st.told) := (blk_cell hV0.blk 0).trans rfl
  have b1 : w.cell? ⟨g, 1, none⟩ = some (.bool st.sat) := (blk_cell hV0.blk 1).trans rfl
  rw [ht] at b0
  rw [hsat] at b1
  have x0 := w_at hrow (K9.refl w) 0 hn
  obtain ⟨p, hp⟩ : ∃ p, w_ ws 0 = p := ⟨_, rfl⟩
  rw [hp] at x0 hv
  have c0 : (p.toList == [118]) = true := beq_iff_eq.2 hv
  have c1 : (p.toList != [118]) = false := bne_eq_false_iff_eq.2 hv
  have hcl : ws.length ≤ c := by
    rcases hrow.2 with ⟨h', _⟩ | ⟨g', cap', cur, h', hle, _⟩
    · simp at h'
    · simp only [Value.slice.injEq] at h'
      obtain ⟨_, _, rfl⟩ := h'
      first | exact hle | omega
  have HV0 := Aside0.mk hV0
  have HROW := Aside0.mk hrow
  have HZ := Aside0.mk hz
  have HM := Aside0.mk hm
  have HLEN := Aside0.mk hlen
  obtain ⟨m, hm1⟩ : ∃ m, ws.length = m + 1 := ⟨ws.length - 1, by omega⟩
  have HM1 := Aside0.mk hm1
  clear hV0 hrow hz ht hsat hp hv hm hlen
  rw [hm1] at hcl
  rw [hm1]
  have hmm : m ≤ 1000000000000 := by have := HLEN.out; omega
  clear hm1 hn
  by_cases hc1 : c = 1
  · have hm0 : m = 0 := by omega
    subst hm0
    have hd : wordsA st (ws.drop 1) = (st, 0) := by rw [List.drop_of_length_le (by have := HM1.out; omega)]; rfl
    have HD := Aside0.mk (HRR.out.symm.trans hd)
    subst hc1
    clear hd
    go_enter Tryd.func43, Tryd.ntmps43
    go_wp2_with fail
    go_loopw [32] (fun jv w' => jv = .int .i64 0 ∧ Aside0 (w = w')) (fun jv _ => 0)
    case atStart => exact ⟨rfl, ⟨rfl⟩⟩
    case round =>
      obtain ⟨rfl, hw⟩ := hrel
      obtain rfl := hw.out
      go_wp2_with fail
      go_ret
      rw [HD.out]
      exact ⟨rfl, _, HV0.out⟩
  · go_enter Tryd.func43, Tryd.ntmps43
    go_wp2_with fail
    go_loopw [32] (fun jv w' => ∃ (j : Nat) (st' : ASt), jv = .int .i64 j ∧ j ≤ m ∧ Aside0 (wordsA st' (ws.drop (j + 1)) = R) ∧ Aside0 (st'.model.length ≤ 1048576) ∧ Aside0 (Af w0 w g st' w')) (fun jv _ => m - (intOf jv).toNat)
    case atStart => exact ⟨0, st, rfl, Nat.zero_le _, HRR, HM, ⟨_, HV0.out⟩⟩
    case round =>
      obtain ⟨j, st', rfl, hj, hT, hB, hR⟩ := hrel
      obtain ⟨vm', hV⟩ := hR.out
      by_cases hlt : j < m
      · have hx := words_row HROW.out hV.k9 (j + 1) (by have := HM1.out; omega)
        have hzj := HZ.out (ws[j + 1]'(by have := HM1.out; omega)) (List.getElem_mem _)
        have hdr := wordsA_drop ws st' (j + 1) (by have := HM1.out; omega)
        rw [hT.out] at hdr
        obtain ⟨q, hq⟩ : ∃ q, ws[j + 1]'(by have := HM1.out; omega) = q := ⟨_, rfl⟩
        rw [hq] at hx hzj hdr
        have hx2 : wr.cell? ⟨A, 1 + j, none⟩ = some (.string q) := by rw [Nat.add_comm]; exact hx
        have NW := Aside0.mk (number_walk q (by omega))
        obtain ⟨n, ok, hn⟩ : ∃ n ok, numR q = (n, ok) := ⟨_, _, rfl⟩
        rw [hn] at NW
        obtain ⟨Am, cm, em⟩ := Kd.R_slice hV.l
        subst em
        have HV := Aside0.mk hV
        have c2 : wr.cell? ⟨g, 2, none⟩ = some (.slice Am st'.model.length cm) := (blk_cell hV.blk 2).trans rfl
        have c3 : wr.cell? ⟨g, 3, none⟩ = some (.bool st'.ended) := (blk_cell hV.blk 3).trans rfl
        have hmb := hB.out
        clear hV hq
        cases hen : st'.ended with
        | true =>
          have hw : wordA st' q = (st', 35) := by unfold wordA; rw [hen, if_pos rfl]
          rw [hw] at hdr
          simp only at hdr
          rw [if_neg (show ¬ ((35 : Int) = 0) by decide)] at hdr
          have HD := Aside0.mk hdr
          rw [hen] at c3
          clear hw hdr hn hen
          go_wp2_with fail
          go_ret
          rw [HD.out]
          exact ⟨rfl, _, HV.out⟩
        | false =>
          have hwa : wordA st' q = if ok = false then (st', 31) else if n = 0 then (⟨st'.told, st'.sat, st'.model, true⟩, 0) else if st'.model.length + 1 ≤ 1048576 ∧ (n = (st'.model.length : Int) + 1 ∨ n = -((st'.model.length : Int) + 1)) then (⟨st'.told, st'.sat, st'.model ++ [decide (0 < n)], st'.ended⟩, 0) else (st', 32) := by
            unfold wordA
            rw [hen, hn, if_neg (by decide)]
          rw [hen] at c3
          have HWA := Aside0.mk hwa
          have HDR := Aside0.mk hdr
          clear hwa hdr hn hen
          go_wp2_with fail
          refine (NW.out _).mono ?_
          rintro e w6 ⟨rfl, hq⟩
          have HV6 := Aside0.mk (show AfV w0 w g (.slice Am st'.model.length cm) st' w6 by obtain ⟨nd, rfl⟩ := hq; exact HV.out.on (pw_below_drewN (Below.refl _ _) nd))
          clear hq c2 c3 hx hx2
          have c2 : w6.cell? ⟨g, 2, none⟩ = some (.slice Am st'.model.length cm) := (blk_cell HV6.out.blk 2).trans rfl
          have c3 : w6.cell? ⟨g, 3, none⟩ = some (.bool st'.ended) := (blk_cell HV6.out.blk 3).trans rfl
          have f2 := blk_frozen HV6.out.blk 2
          have f3 := blk_frozen HV6.out.blk 3
          cases ok with
          | false =>
            have hdr := HDR.out
            rw [show wordA st' q = (st', 31) from by rw [HWA.out, if_pos rfl]] at hdr
            simp only at hdr
            rw [if_neg (show ¬ ((31 : Int) = 0) by decide)] at hdr
            have HD := Aside0.mk hdr
            clear hdr
            go_wp2_with fail
            go_ret
            rw [HD.out]
            exact ⟨rfl, _, HV6.out⟩
          | true =>
            by_cases h0 : n = 0
            · subst h0
              have hdr := HDR.out
              rw [show wordA st' q = (⟨st'.told, st'.sat, st'.model, true⟩, 0) from by rw [HWA.out, if_neg (by decide), if_pos rfl]] at hdr
              simp only at hdr
              (first | rw [if_pos trivial] at hdr | rw [if_pos rfl] at hdr)
              have HD := Aside0.mk hdr.symm
              have HVE := Aside0.mk HV6.out.ends
              clear hdr
              go_wp2_with fail
              go_roundw
              case rel => exact ⟨j + 1, _, by go_num, by omega, HD, hB, ⟨_, HVE.out⟩⟩
              case measure => simp [intOf]; omega
            · have cn0 : (n == 0) = false := beq_eq_false_iff_ne.2 h0
              have hwb := HWA.out
              rw [if_neg (by decide), if_neg h0] at hwb
              have HWB := Aside0.mk hwb
              clear hwb h0
              by_cases hmx : st'.model.length + 1 ≤ 1048576
              · have dm : decide ((st'.model.length : Int) + 1 ≤ 1048576) = true := decide_eq_true (by omega)
                have dm' : decide (st'.model.length + 1 ≤ 1048576) = true := decide_eq_true hmx
                by_cases hnn : n = (st'.model.length : Int) + 1 ∨ n = -((st'.model.length : Int) + 1)
                · have hdr := HDR.out
                  rw [show wordA st' q = (⟨st'.told, st'.sat, st'.model ++ [decide (0 < n)], st'.ended⟩, 0) from by rw [HWB.out, if_pos ⟨hmx, hnn⟩]] at hdr
                  simp only at hdr
                  (first | rw [if_pos trivial] at hdr | rw [if_pos rfl] at hdr)
                  have HD := Aside0.mk hdr.symm
                  have HBD := Aside0.mk (show (st'.model.length + 1) * 1 ≤ 140737488355328 by omega)
                  have HMX := Aside0.mk hmx
                  obtain ⟨bb, hbb⟩ : ∃ bb : Bool, decide (0 < n) = bb := ⟨_, rfl⟩
                  by_cases hp : n = (st'.model.length : Int) + 1
                  · have e0 : (n == (st'.model.length : Int) + 1) = true := beq_iff_eq.2 hp
                    have d0 : decide (0 < n) = true := decide_eq_true (by omega)
                    rw [d0] at HD
                    have hml : st'.model.length ≤ 1048576 := by omega
                    clear hnn hp hmx hdr hbb
                    go_wp2_with (first | (at_builtin; refine Kd.R_append Kd.bool (w0 := w0) w0.heap.size rfl (.tmp 78) (.tmp 81) 22 4 (.bool false) 1 rfl Tryd.underlying22 info4 rfl (by decide) (by omega) (.slice Am st'.model.length cm) st'.model true [.bool true] (fun k_ => k_ ≠ g) (fun _ => False) rfl (by simp [Act.eval, World.setCell, World.drewN]) ?aP (fun _ hk => hk.elim) ?aF ?aO ?aB ?aS ?aL ?_; (case aP => exact rfl); (case aF => exact (fun k hk e => by subst e; have := blk_lt HV6.out.blk; omega)); (case aO => exact HV6.out.l); (case aB => exact HV6.out.below); (case aS => exact HV6.out.below.size); (case aL => exact HBD.out); intro v1 w5 ho hb hg hat; obtain ⟨Ao, co, eo⟩ := Kd.R_slice ho; subst eo; have hbk := blk_grown HV6.out.blk hg (Kd.R_ne HV6.out.l HV6.out.blk (by decide)); have y2 := blk_frozen hbk 2; have x2 : w5.cell? ⟨g, 2, none⟩ = some (.slice Am st'.model.length cm) := (blk_cell hbk 2).trans rfl; have HR5 := Aside0.mk (AfV.appended HV6.out ho hb hg); clear ho hb hg hat hbk))
                    go_roundw
                    case rel =>
                      have HR6 := HR5.out
                      rw [show (st'.model ++ [true]).length = st'.model.length + 1 by simp] at HR6
                      exact ⟨j + 1, _, by go_num, by omega, HD, ⟨by simp only [List.length_append, List.length_cons, List.length_nil]; have := HMX.out; omega⟩, ⟨_, HR6⟩⟩
                    case measure => simp [intOf]; omega
                  · have e0 : (n == (st'.model.length : Int) + 1) = false := beq_eq_false_iff_ne.2 hp
                    have hq : n = -((st'.model.length : Int) + 1) := hnn.resolve_left hp
                    have e1 : (n == -((st'.model.length : Int) + 1)) = true := beq_iff_eq.2 hq
                    have d0 : decide (0 < n) = false := decide_eq_false (by omega)
                    rw [d0] at HD
                    have hml : st'.model.length ≤ 1048576 := by omega
                    clear hq
                    clear hnn hp hmx hdr hbb
                    go_wp2_with (first | (at_builtin; refine Kd.R_append Kd.bool (w0 := w0) w0.heap.size rfl (.tmp 78) (.tmp 81) 22 4 (.bool false) 1 rfl Tryd.underlying22 info4 rfl (by decide) (by omega) (.slice Am st'.model.length cm) st'.model false [.bool false] (fun k_ => k_ ≠ g) (fun _ => False) rfl (by simp [Act.eval, World.setCell, World.drewN]) ?aP (fun _ hk => hk.elim) ?aF ?aO ?aB ?aS ?aL ?_; (case aP => exact rfl); (case aF => exact (fun k hk e => by subst e; have := blk_lt HV6.out.blk; omega)); (case aO => exact HV6.out.l); (case aB => exact HV6.out.below); (case aS => exact HV6.out.below.size); (case aL => exact HBD.out); intro v1 w5 ho hb hg hat; obtain ⟨Ao, co, eo⟩ := Kd.R_slice ho; subst eo; have hbk := blk_grown HV6.out.blk hg (Kd.R_ne HV6.out.l HV6.out.blk (by decide)); have y2 := blk_frozen hbk 2; have x2 : w5.cell? ⟨g, 2, none⟩ = some (.slice Am st'.model.length cm) := (blk_cell hbk 2).trans rfl; have HR5 := Aside0.mk (AfV.appended HV6.out ho hb hg); clear ho hb hg hat hbk))
                    go_roundw
                    case rel =>
                      have HR6 := HR5.out
                      rw [show (st'.model ++ [false]).length = st'.model.length + 1 by simp] at HR6
                      exact ⟨j + 1, _, by go_num, by omega, HD, ⟨by simp only [List.length_append, List.length_cons, List.length_nil]; have := HMX.out; omega⟩, ⟨_, HR6⟩⟩
                    case measure => simp [intOf]; omega
                · have e0 : (n == (st'.model.length : Int) + 1) = false := beq_eq_false_iff_ne.2 (fun e => hnn (.inl e))
                  have e1 : (n == -((st'.model.length : Int) + 1)) = false := beq_eq_false_iff_ne.2 (fun e => hnn (.inr e))
                  have hdr := HDR.out
                  rw [show wordA st' q = (st', 32) from by rw [HWB.out, if_neg (fun e => hnn e.2)]] at hdr
                  simp only at hdr
                  rw [if_neg (show ¬ ((32 : Int) = 0) by decide)] at hdr
                  have HD := Aside0.mk hdr
                  have hml : st'.model.length ≤ 1048576 := by omega
                  clear hdr hmx hnn
                  go_wp2_with fail
                  go_ret
                  rw [HD.out]
                  exact ⟨rfl, _, HV6.out⟩
              · have dm : decide ((st'.model.length : Int) + 1 ≤ 1048576) = false := decide_eq_false (by omega)
                have dm' : decide (st'.model.length + 1 ≤ 1048576) = false := decide_eq_false hmx
                have hdr := HDR.out
                rw [show wordA st' q = (st', 32) from by rw [HWB.out, if_neg (fun e => hmx e.1)]] at hdr
                simp only at hdr
                rw [if_neg (show ¬ ((32 : Int) = 0) by decide)] at hdr
                have HD := Aside0.mk hdr
                clear hdr hmx
                go_wp2_with fail
                go_ret
                rw [HD.out]
                exact ⟨rfl, _, HV6.out⟩
      · obtain rfl : j = m := by omega
        have hT2 := hT.out
        rw [List.drop_of_length_le (by have := HM1.out; omega)] at hT2
        have HD := Aside0.mk (hT2.symm.trans (show wordsA st' [] = (st', 0) from rfl))
        clear hT2
        go_wp2_with fail
        go_ret
        rw [HD.out]
        exact ⟨rfl, _, hV⟩
end Go.Proofs.YtejdjmcdlbcmeaaDoor.R
end
section
set_option linter.unusedVariables false
set_option linter.unusedSimpArgs false
namespace Go.Proofs.YtejdjmcdlbcmeaaDoor.R
open Go.RowKit Go.Lib Go.Proofs.YtejdjmcdlbcmeaaDoorW.PrintWords Go.Proofs.YtejdjmcdlbcmeaaDoorW.PrintLast Go.Proofs.YtejdjmcdlbcmeaaDoorW.PrintMore

set_option maxHeartbeats 8000000 in
set_option maxRecDepth 100000 in
theorem tell_line (w0 : World) (g : Nat) (st : ASt) (w : World) (A c base : Nat) (ws : List ByteArray) (hR : Af w0 w g st w) (hrow : w.ownsRow base 9 1 (.slice (some ⟨A, 0, none⟩) ws.length c) ws.length (ws.map Value.string)) (hz : ∀ x ∈ ws, x.size ≤ 4294967296)
    (hn : 0 < ws.length) (hlen : ws.length ≤ 1000000000000) (hm : st.model.length ≤ 1048576) :
    Calls Tryd.prog 43 #[.pointer (some ⟨g, 0, none⟩), .slice (some ⟨A, 0, none⟩) ws.length c] w fun e w' => e = .returned (.int .i64 (lineA st ws).2) ∧ Af w0 w g (lineA st ws).1 w' := by
  cases ht : st.told with
  | false =>
    have he : lineA st ws = firstA st ws := by unfold lineA; rw [if_pos ht]
    rw [he]
    have FW := Aside0.mk (first_walk w0 g st w A c base ws hR hrow hlen)
    obtain ⟨vm, hV⟩ := hR
    have b0 : w.cell? ⟨g, 0, none⟩ = some (.bool st.told) := (blk_cell hV.blk 0).trans rfl
    rw [ht] at b0
    obtain ⟨R, hRR⟩ : ∃ R, firstA st ws = R := ⟨_, rfl⟩
    rw [hRR] at FW
    rw [hRR]
    clear he hV hrow hz hn hm ht hRR
    go_enter Tryd.func43, Tryd.ntmps43
    go_wp2_with fail
    refine FW.out.mono ?_
    rintro e w2 ⟨rfl, h2⟩
    have H2 := Aside0.mk h2
    clear h2
    go_wp2_with fail
    go_ret
    exact ⟨rfl, H2.out⟩
  | true =>
    cases hs : st.sat with
    | false =>
      have he : lineA st ws = (st, 35) := by unfold lineA; rw [if_neg (by rw [ht]; decide), if_pos hs]
      rw [he]
      obtain ⟨vm, hV⟩ := hR
      have b0 : w.cell? ⟨g, 0, none⟩ = some (.bool st.told) := (blk_cell hV.blk 0).trans rfl
      have b1 : w.cell? ⟨g, 1, none⟩ = some (.bool st.sat) := (blk_cell hV.blk 1).trans rfl
      rw [ht] at b0
      rw [hs] at b1
      have HV := Aside0.mk hV
      clear he hV hrow hz hn hm ht hs
      go_enter Tryd.func43, Tryd.ntmps43
      go_wp2_with fail
      go_ret
      exact ⟨rfl, _, HV.out⟩
    | true =>
      by_cases hv : (w_ ws 0).toList = kV
      · have he : lineA st ws = wordsA st (ws.drop 1) := by unfold lineA; rw [if_neg (by rw [ht]; decide), if_neg (by rw [hs]; decide), if_pos hv]
        rw [he]
        exact tell_words w0 g st w A c base ws hR hrow hz ht hs hv hn hlen hm
      · have he : lineA st ws = (st, 35) := by unfold lineA; rw [if_neg (by rw [ht]; decide), if_neg (by rw [hs]; decide), if_neg hv]
        rw [he]
        have x0 := w_at hrow (K9.refl w) 0 hn
        obtain ⟨p, hp⟩ : ∃ p, w_ ws 0 = p := ⟨_, rfl⟩
        rw [hp] at x0 hv
        have c0 : (p.toList == [118]) = false := beq_eq_false_iff_ne.2 hv
        have c1 : (p.toList != [118]) = true := bne_iff_ne.2 hv
        obtain ⟨vm, hV⟩ := hR
        have b0 : w.cell? ⟨g, 0, none⟩ = some (.bool st.told) := (blk_cell hV.blk 0).trans rfl
        have b1 : w.cell? ⟨g, 1, none⟩ = some (.bool st.sat) := (blk_cell hV.blk 1).trans rfl
        rw [ht] at b0
        rw [hs] at b1
        have HV := Aside0.mk hV
        clear he hV hrow hz hm ht hs hv hp
        go_enter Tryd.func43, Tryd.ntmps43
        go_wp2_with fail
        go_ret
        exact ⟨rfl, _, HV.out⟩
/-- What is missing at the end. -/
def endA (st : ASt) : Int := if st.told = false then 35 else if st.sat = true ∧ st.ended = false then 33 else 0
/-- The lines, one behind the other. -/
def linesT : List (List UInt8) → Nat → ASt → ASt × Int × Nat
  | [], n, st => (st, endA st, if endA st = 0 then 0 else n + 1)
  | l :: r, n, st => if idleB l then linesT r (n + 1) st else if (lineA st (wordsB (mkB l))).2 = 0 then linesT r (n + 1) (lineA st (wordsB (mkB l))).1 else ((lineA st (wordsB (mkB l))).1, (lineA st (wordsB (mkB l))).2, n + 1)
def readA (s : ByteArray) : ASt × Int × Nat := linesT (linesA s.data.toList) 0 ast0
/-- What dimacs.ReadAnswer comes to. -/
def dimacs_ReadAnswer.f (s : ByteArray) : Option (Bool × List Bool × Int × Int) :=
  if s.size ≤ 4294967280 then (if (readA s).2.1 = 0 then some ((readA s).1.sat, (readA s).1.model, 0, 0) else some (false, [], (readA s).2.1, ((readA s).2.2 : Nat))) else none
theorem af_new (w : World) : Af w w w.heap.size ast0 (w.alloc (.cells #[.bool false, .bool false, .slice none 0 0, .bool false] 68)) :=
  ⟨_, heap_alloc_new w _, Kd.R_nil _ _ _ _ _, (Below.refl _ w).alloc (Nat.le_refl _) _, Nat.le_refl _, K9.below (K9.refl w) ((Below.refl _ w).alloc (Nat.le_refl _) _)⟩
theorem Af.base {w0 ws w : World} {g : Nat} {st : ASt} (h : Af w0 ws g st w) : Af w0 w g st w := by
  obtain ⟨vm, h⟩ := h
  exact ⟨vm, h.blk, h.l, h.below, h.le, K9.refl w⟩
theorem Af.on {w0 ws w w' : World} {g : Nat} {st : ASt} (h : Af w0 ws g st w) (hb : Below w.heap.size w w') : Af w0 ws g st w' := by
  obtain ⟨vm, h⟩ := h
  exact ⟨vm, h.on hb⟩
theorem Af.k9 {w0 ws w : World} {g : Nat} {st : ASt} (h : Af w0 ws g st w) : K9 ws w := by
  obtain ⟨vm, h⟩ := h
  exact h.k9
/-- What ReadAnswer leaves. -/
def PostA (w : World) (r : ASt × Int × Nat) (e : Ending) (w' : World) : Prop :=
  ∃ v : Value, e = .returned (.tuple #[.bool (if r.2.1 = 0 then r.1.sat else false), v, .int .i64 r.2.1, .int .i64 (if r.2.1 = 0 then (0 : Int) else (r.2.2 : Int))]) ∧ Kd.R Kd.bool 4 w' w.heap.size (fun _ => True) v (if r.2.1 = 0 then r.1.model else []) ∧ Below w.heap.size w w'
theorem PostA.bad {w w' : World} {r : ASt × Int × Nat} {e : Int} {n : Nat} (h1 : r.2.1 = e) (h0 : e ≠ 0) (h2 : r.2.2 = n) (hb : Below w.heap.size w w') : PostA w r (.returned (.tuple #[.bool false, .slice none 0 0, .int .i64 e, .int .i64 (n : Int)])) w' := by
  refine ⟨.slice none 0 0, ?_, ?_, hb⟩
  · rw [h1, if_neg h0, if_neg h0, h2]
  · rw [h1, if_neg h0]; exact Kd.R_nil _ _ _ _ _
theorem PostA.good {w w' : World} {r : ASt × Int × Nat} {b : Bool} {l : List Bool} {v : Value} (h1 : r.2.1 = 0) (h2 : r.1.sat = b) (h3 : r.1.model = l) (hl : Kd.R Kd.bool 4 w' w.heap.size (fun _ => True) v l) (hb : Below w.heap.size w w') : PostA w r (.returned (.tuple #[.bool b, v, .int .i64 0, .int .i64 0])) w' := by
  refine ⟨v, ?_, ?_, hb⟩
  · rw [h1, if_pos rfl, if_pos rfl, h2]
  · rw [h1, if_pos rfl, h3]; exact hl
set_option maxHeartbeats 8000000 in
set_option maxRecDepth 100000 in
theorem answer_walk (a0 : ByteArray) (w : World) (hE : Env w) (hs : a0.size ≤ 4294967280) : Calls Tryd.prog 24 #[.string a0] w (PostA w (readA a0)) := by
  have hli := lines_is a0 hs
  have hml := massD_lines a0.data.toList.length a0.data.toList (Nat.le_refl _)
  obtain ⟨LL, hLL⟩ : ∃ LL, linesA a0.data.toList = LL := ⟨_, rfl⟩
  have hsz : a0.data.toList.length = a0.size := by simp
  have hrd : linesT LL 0 ast0 = readA a0 := by rw [← hLL]; rfl
  rw [hLL] at hli hml
  obtain ⟨r, hr⟩ : ∃ r, readA a0 = r := ⟨_, rfl⟩
  rw [hr] at hrd
  rw [hr]
  have hlen : LL.length ≤ 4294967280 := by omega
  have HML := Aside0.mk (show ∀ x ∈ LL, x.length ≤ 4294967280 from fun x hx => by have := hml.2.2 x hx; omega)
  have HE := Aside0.mk hE
  have HRD := Aside0.mk hrd
  have HN := Aside0.mk (af_new w)
  obtain ⟨w1, hw1⟩ : ∃ w1, w.alloc (.cells #[.bool false, .bool false, .slice none 0 0, .bool false] 68) = w1 := ⟨_, rfl⟩
  rw [hw1] at HN
  have HE1 := Aside0.mk (show Env w1 from hE.below (by rw [← hw1]; exact (Below.refl _ w).alloc (Nat.le_refl _) _))
  have HLC := Aside0.mk (dimacs_lines.calls a0 (LL.map mkB) w1 HE1.out hli)
  clear hE hrd hml hli hLL hr hsz
  go_enter Tryd.func24, Tryd.ntmps24
  go_wp2_with fail
  refine HLC.out.mono ?_
  rintro e w2 ⟨v, rfl, hRL, hb2⟩
  obtain ⟨Av, cv, hv, hcl, hCL⟩ := Kd.R_reads hRL
  rw [List.length_map] at hv
  subst hv
  have hown : w2.ownsRow w1.heap.size 9 1 (.slice Av LL.length cv) LL.length ((LL.map mkB).map Value.string) := by
    have := Kd.own_of_R hRL
    simpa [encs] using this
  have HOWN := Aside0.mk hown
  have HR2 := Aside0.mk (HN.out.on hb2)
  clear hRL hb2 hcl hCL hown
  go_wp2_with fail
  go_loopw [17] (fun jv w' => ∃ (i : Nat) (st : ASt), jv = .int .i64 i ∧ i ≤ LL.length ∧ Aside0 (linesT (LL.drop i) i st = r) ∧ Aside0 (st.model.length ≤ 1048576) ∧ Aside0 (∃ ws, Af w ws w.heap.size st w') ∧ Aside0 (K9 w2 w')) (fun jv _ => LL.length - (intOf jv).toNat)
  case atStart => exact ⟨0, ast0, rfl, Nat.zero_le _, HRD, ⟨by simp [ast0]⟩, ⟨_, HR2.out⟩, ⟨K9.refl _⟩⟩
  case round =>
    obtain ⟨i, st, rfl, hi, hF, hB, hR, hK⟩ := hrel
    by_cases hlt : i < LL.length
    · obtain ⟨gL, rfl⟩ : ∃ gL, Av = some ⟨gL, 0, none⟩ := by
        rcases HOWN.out.2 with ⟨_, h0⟩ | ⟨g', cap', cur, h', _⟩
        · omega
        · simp only [Value.slice.injEq] at h'
          exact ⟨g', h'.1⟩
      have hx := words_row HOWN.out hK.out i (by rw [List.length_map]; exact hlt)
      rw [List.getElem_map] at hx
      have hl := HML.out LL[i] (List.getElem_mem hlt)
      have hf := hF.out
      rw [List.drop_eq_getElem_cons hlt, linesT] at hf
      obtain ⟨l, hl0⟩ : ∃ l, LL[i] = l := ⟨_, rfl⟩
      rw [hl0] at hx hl hf
      have HID := Aside0.mk (idle_is l (by omega))
      have HF := Aside0.mk hf
      clear hf hl0
      go_wp2_with fail
      ((with_reducible refine (dimacs_idle.calls (mkB l) _ _ HID.out).mono ?_))
      rintro e w3 ⟨rfl, hb3⟩
      obtain ⟨ws0, hR0⟩ := hR.out
      have HR3 := Aside0.mk (hR0.on hb3)
      have HK3 := Aside0.mk (hK.out.below hb3)
      clear hb3 hR0
      cases hid : idleB l with
      | true =>
        have hf := HF.out
        rw [hid, if_pos rfl] at hf
        have HF2 := Aside0.mk hf
        clear hf
        go_wp2_with fail
        go_roundw
        case rel => exact ⟨i + 1, st, by go_num, by omega, HF2, hB, ⟨_, HR3.out⟩, HK3⟩
        case measure => simp [intOf]; omega
      | false =>
        have hf := HF.out
        rw [hid, if_neg (by decide)] at hf
        obtain ⟨wz, hwz⟩ : ∃ wz, wordsB (mkB l) = wz := ⟨_, rfl⟩
        have hwl := wordsB_length (mkB l)
        have hws := wordsB_size (mkB l)
        have hne : wz ≠ [] := by
          intro e
          unfold idleB at hid
          rw [hwz, e, Bool.or_eq_false_iff] at hid
          exact absurd hid.2 (by decide)
        have hcalls := fun (W : World) => dimacs_words.calls (mkB l) wz W (by unfold dimacs_words.f; rw [if_pos (by rw [mkB_size]; omega), hwz])
        rw [mkB_size] at hwl hws
        rw [hwz] at hf hwl hws
        have HF2 := Aside0.mk hf
        have HWC := Aside0.mk hcalls
        have HWS := Aside0.mk hws
        have HNE := Aside0.mk hne
        have HWL := Aside0.mk (show wz.length ≤ 1000000000000 by omega)
        clear hf hcalls hws hne hwz hwl
        go_wp2_with fail
        ((with_reducible refine (HWC.out _).mono ?_))
        rintro e w4 ⟨v, rfl, hRW, hb4⟩
        obtain ⟨gW, cW, hvW, hoW⟩ : ∃ gW cW, v = .slice (some ⟨gW, 0, none⟩) wz.length cW ∧ w4.ownsRow w3.heap.size 9 1 (.slice (some ⟨gW, 0, none⟩) wz.length cW) wz.length (wz.map Value.string) := by
          have h0 := Kd.own_of_R hRW
          rcases h0.2 with ⟨_, h0'⟩ | ⟨g', cap', cur, rfl, _⟩
          · exact absurd (List.eq_nil_of_length_eq_zero h0') HNE.out
          · exact ⟨g', cap', rfl, h0⟩
        subst hvW
        have HR4 := Aside0.mk (HR3.out.on hb4).base
        have HK4 := Aside0.mk (HK3.out.below hb4)
        have HOW := Aside0.mk hoW
        clear hRW hb4 hoW
        go_wp2_with fail
        ((with_reducible refine (tell_line w w.heap.size st w4 gW cW _ wz HR4.out HOW.out (fun x hx => by have := HWS.out x hx; omega) (List.length_pos_iff.2 HNE.out) HWL.out hB.out).mono ?_))
        rintro e w6 ⟨rfl, hR6⟩
        have HK6 := Aside0.mk (HK4.out.trans hR6.k9)
        have HR6 := Aside0.mk hR6
        clear hR6
        obtain ⟨st2, er, hld⟩ : ∃ st2 er, lineA st wz = (st2, er) := ⟨_, _, rfl⟩
        have hf := HF2.out
        have hll := lineA_length st wz hB.out
        rw [hld] at hf HR6 hll
        simp only at hf hll
        rw [hld]
        have HLL := Aside0.mk hll
        clear hld hll
        by_cases he : er = 0
        · subst he
          rw [if_pos rfl] at hf
          have HF3 := Aside0.mk hf
          clear hf
          go_wp2_with fail
          go_roundw
          case rel => exact ⟨i + 1, st2, by go_num, by omega, HF3, HLL, ⟨_, HR6.out⟩, HK6⟩
          case measure => simp [intOf]; omega
        · rw [if_neg he] at hf
          have HF3 := Aside0.mk hf
          have ene : ((er : Int) != 0) = true := bne_iff_ne.2 he
          have ene2 : ((er : Int) == 0) = false := beq_eq_false_iff_ne.2 he
          have HEN := Aside0.mk he
          obtain ⟨vm, hV⟩ := HR6.out
          have HB6 := Aside0.mk hV.below
          clear hf he hV
          go_wp2_with fail
          refine bodyPost_ret (results_list (rs := [.tmp 2, .tmp 3, .tmp 4, .tmp 5]) rfl (by simp) (.tmp (.tmp (.tmp (.tmp .nil))))) rfl ?_
          exact PostA.bad (n := i + 1) (by rw [← HF3.out]) HEN.out (by rw [← HF3.out]) HB6.out
    · obtain rfl : i = LL.length := by omega
      have hf := hF.out
      rw [List.drop_length, linesT] at hf
      obtain ⟨ws0, vm, hV⟩ := hR.out
      obtain ⟨Am, cm, em⟩ := Kd.R_slice hV.l
      subst em
      have c0 : wr.cell? ⟨w.heap.size, 0, none⟩ = some (.bool st.told) := (blk_cell hV.blk 0).trans rfl
      have c1 : wr.cell? ⟨w.heap.size, 1, none⟩ = some (.bool st.sat) := (blk_cell hV.blk 1).trans rfl
      have c2 : wr.cell? ⟨w.heap.size, 2, none⟩ = some (.slice Am st.model.length cm) := (blk_cell hV.blk 2).trans rfl
      have c3 : wr.cell? ⟨w.heap.size, 3, none⟩ = some (.bool st.ended) := (blk_cell hV.blk 3).trans rfl
      have HV := Aside0.mk hV
      clear hV
      cases ht : st.told with
      | false =>
        have he : endA st = 35 := by unfold endA; rw [if_pos ht]
        rw [he] at hf
        have HF3 := Aside0.mk hf
        rw [ht] at c0
        clear hf he ht
        go_wp2_with fail
        refine bodyPost_ret (results_list (rs := [.tmp 2, .tmp 3, .tmp 4, .tmp 5]) rfl (by simp) (.tmp (.tmp (.tmp (.tmp .nil))))) rfl ?_
        exact PostA.bad (n := LL.length + 1) (by rw [← HF3.out]) (by decide) (by rw [← HF3.out, if_neg (by decide)]) HV.out.below
      | true =>
        rw [ht] at c0
        by_cases hse : st.sat = true ∧ st.ended = false
        · have he : endA st = 33 := by unfold endA; rw [if_neg (by rw [ht]; decide), if_pos hse]
          rw [he] at hf
          have HF3 := Aside0.mk hf
          rw [hse.1] at c1
          rw [hse.2] at c3
          clear hf he ht hse
          go_wp2_with fail
          refine bodyPost_ret (results_list (rs := [.tmp 2, .tmp 3, .tmp 4, .tmp 5]) rfl (by simp) (.tmp (.tmp (.tmp (.tmp .nil))))) rfl ?_
          exact PostA.bad (n := LL.length + 1) (by rw [← HF3.out]) (by decide) (by rw [← HF3.out, if_neg (by decide)]) HV.out.below
        · have he : endA st = 0 := by unfold endA; rw [if_neg (by rw [ht]; decide), if_neg hse]
          rw [he] at hf
          have HF3 := Aside0.mk hf
          cases hsa : st.sat with
          | false =>
            rw [hsa] at c1
            have HSA := Aside0.mk hsa
            clear hf he ht hse hsa
            go_wp2_with fail
            go_quiet (fail)
            go_wp2_with fail
            refine bodyPost_ret (results_list (rs := [.tmp 2, .tmp 3, .tmp 4, .tmp 5]) rfl (by simp) (.tmp (.tmp (.tmp (.tmp .nil))))) rfl ?_
            exact PostA.good (by rw [← HF3.out]) (by rw [← HF3.out]; exact HSA.out) (by rw [← HF3.out]) (Kd.R_drewN (Kd.R_mono HV.out.l (fun _ _ => trivial)) _) (pw_below_drewN HV.out.below _)
          | true =>
            have hen : st.ended = true := by
              cases h : st.ended with
              | true => rfl
              | false => exact absurd ⟨hsa, h⟩ hse
            rw [hsa] at c1
            rw [hen] at c3
            have HSA := Aside0.mk hsa
            clear hf he ht hse hsa hen
            go_wp2_with fail
            go_quiet (fail)
            go_wp2_with fail
            refine bodyPost_ret (results_list (rs := [.tmp 2, .tmp 3, .tmp 4, .tmp 5]) rfl (by simp) (.tmp (.tmp (.tmp (.tmp .nil))))) rfl ?_
            exact PostA.good (by rw [← HF3.out]) (by rw [← HF3.out]; exact HSA.out) (by rw [← HF3.out]) (Kd.R_drewN (Kd.R_mono HV.out.l (fun _ _ => trivial)) _) (pw_below_drewN HV.out.below _)
theorem dimacs_ReadAnswer.calls (a0 : ByteArray) (r1 : Bool) (r2 : List Bool) (r3 r4 : Int) (w : World) (hE : Env w) (h : dimacs_ReadAnswer.f a0 = some (r1, r2, r3, r4)) :
    Calls Tryd.prog 24 #[.string a0] w fun e w' => ∃ v1_ : Value, e = .returned (.tuple #[.bool r1, v1_, .int .i64 r3, .int .i64 r4]) ∧ Kd.R Kd.bool 4 w' w.heap.size (fun _ => True) v1_ r2 ∧ Below w.heap.size w w' := by
  unfold dimacs_ReadAnswer.f at h
  by_cases hs : a0.size ≤ 4294967280
  · rw [if_pos hs] at h
    have hw := answer_walk a0 w hE hs
    by_cases he : (readA a0).2.1 = 0
    · rw [if_pos he] at h
      refine hw.mono ?_
      rintro e w' ⟨v, rfl, hl, hb⟩
      rw [if_pos he] at hl
      rw [if_pos he, if_pos he, he]
      injection h with h
      injection h with h1 h
      injection h with h2 h
      injection h with h3 h4
      subst h1 h2 h3 h4
      exact ⟨v, rfl, hl, hb⟩
    · rw [if_neg he] at h
      refine hw.mono ?_
      rintro e w' ⟨v, rfl, hl, hb⟩
      rw [if_neg he] at hl
      rw [if_neg he, if_neg he]
      injection h with h
      injection h with h1 h
      injection h with h2 h
      injection h with h3 h4
      subst h1 h2 h3 h4
      exact ⟨v, rfl, hl, hb⟩
  · rw [if_neg hs] at h
    cases h
end Go.Proofs.YtejdjmcdlbcmeaaDoor.R
end
