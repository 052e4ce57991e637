/- dimacs' (*teller).first and (*teller).line: the walks. No conditions. dimacs.ReadAnswer: what it comes to, for every text of at most 4294967280 bytes. No conditions. dimacs.ReadAnswer line by line against the reference's reading word by word. No conditions. The reference's ReadAnswer comes to what the program's comes to; the pure law DimacsTells. No conditions. What dimacs reads is small, and what the reference reads of the same text. No conditions. -/
import Derived.Test.YtlhajfepcggjaaaGreatDoorReadD
import Derived.Test.YtlhajfepcggjaaaGreatDoorRefU
import Derived.Test.YtlhajfepcggjaaaGreatDoorRx11
import Derived.KernelRfl
set_option linter.unusedVariables false
set_option linter.unusedSimpArgs false
namespace Go.Proofs.YtlhajfepcggjaaaGreatDoor.R
open Go.RowKit Go.Lib Go.Proofs.YtlhajfepcggjaaaGreatDoorW.PrintWords Go.Proofs.YtlhajfepcggjaaaGreatDoorW.PrintLast Go.Proofs.YtlhajfepcggjaaaGreatDoorW.PrintMore

def kS : List UInt8 := [115]
def kV : List UInt8 := [118]
def kSat : List UInt8 := [83, 65, 84, 73, 83, 70, 73, 65, 66, 76, 69]
def kUns : List UInt8 := [85, 78, 83, 65, 84, 73, 83, 70, 73, 65, 66, 76, 69]
/-- What has been read of an answer. -/
structure ASt where
 told : Bool
 sat : Bool
 model : List Bool
 ended : Bool
def ast0 : ASt := ⟨false, false, [], false⟩
/-- The teller's block and what hangs on it. -/
structure AfV (w0 ws : World) (g : Nat) (vm : Value) (st : ASt) (w : World) : Prop where
 blk : w.heap[g]? = some (.cells #[.bool st.told, .bool st.sat, vm, .bool st.ended] 91 (0, 0))
 l : Kd.R Kd.bool 4 w w0.heap.size (fun k_ => k_ ≠ g) vm st.model
 below : Below w0.heap.size w0 w
 le : w0.heap.size ≤ g
 k9 : K9 ws w
theorem AfV.on {w0 ws w w' : World} {g : Nat} {vm : Value} {st : ASt} (h : AfV w0 ws g vm st w) (hb : Below w.heap.size w w') : AfV w0 ws g vm st w' :=
 ⟨(hb.block g (blk_lt h.blk)).trans h.blk, Kd.R_below h.l hb, h.below.trans (hb.mono h.below.size), h.le, h.k9.below hb⟩
/-- The teller is in the state st. -/
def Af (w0 ws : World) (g : Nat) (st : ASt) (w : World) : Prop := ∃ vm, AfV w0 ws g vm st w
theorem AfV.first {w0 ws w : World} {g : Nat} {vm : Value} {st : ASt} (h : AfV w0 ws g vm st w) (b : Bool) :
  AfV w0 ws g vm ⟨true, b, st.model, st.ended⟩ ((w.setCell ⟨g, 0, none⟩ (.bool true)).setCell ⟨g, 1, none⟩ (.bool b)) := by
 have b1 := blk_put h.blk 0 (.bool true) rfl
 have b2 := blk_put b1 1 (.bool b) rfl
 exact ⟨b2, Kd.R_far (Kd.R_far h.l (fun k hk => hk) _) (fun k hk => hk) _, ((h.below.setCell (p := ⟨g, 0, none⟩) h.le _).setCell (p := ⟨g, 1, none⟩) h.le _), h.le, (h.k9.put h.blk (by decide) _ _).put b1 (by decide) _ _⟩
theorem AfV.ends {w0 ws w : World} {g : Nat} {vm : Value} {st : ASt} (h : AfV w0 ws g vm st w) :
  AfV w0 ws g vm ⟨st.told, st.sat, st.model, true⟩ (w.setCell ⟨g, 3, none⟩ (.bool true)) :=
 ⟨blk_put h.blk 3 (.bool true) rfl, Kd.R_far h.l (fun k hk => hk) _, h.below.setCell (p := ⟨g, 3, none⟩) h.le _, h.le, h.k9.put h.blk (by decide) _ _⟩
theorem AfV.appended {w0 ws w w1 : World} {g : Nat} {vm v1 : Value} {st : ASt} {b : Bool} (h : AfV w0 ws g vm st w)
  (ho : Kd.R Kd.bool 4 w1 w0.heap.size (fun k_ => k_ ≠ g) v1 (st.model ++ [b])) (hb : Below w0.heap.size w0 w1) (hg : w.grownBy w1 vm.ownBlock) :
  AfV w0 ws g v1 ⟨st.told, st.sat, st.model ++ [b], st.ended⟩ (w1.setCell ⟨g, 2, none⟩ v1) := by
 have hbk := blk_grown h.blk hg (Kd.R_ne h.l h.blk (by decide))
 exact ⟨blk_put hbk 2 _ rfl, Kd.R_far ho (fun k hk => hk) _, hb.setCell (p := ⟨g, 2, none⟩) h.le _, h.le, (h.k9.grown hg (Kd.R_typed h.l) (by decide)).put hbk (by decide) _ _⟩

def w_ (ws : List ByteArray) (i : Nat) : ByteArray := ws.getD i ByteArray.empty
/-- The first line that isn't idle. -/
def firstA (st : ASt) (ws : List ByteArray) : ASt × Int :=
 if ws.length = 2 then (if (w_ ws 0).toList = kS then (if (w_ ws 1).toList = kSat then (⟨true, true, st.model, st.ended⟩, 0) else if (w_ ws 1).toList = kUns then (⟨true, false, st.model, st.ended⟩, 0) else (st, 35)) else (st, 35)) else (st, 35)
/-- The next word of a line of values. -/
def wordA (st : ASt) (w : ByteArray) : ASt × Int :=
 if st.ended then (st, 35)
 else if (numR w).2 = false then (st, 31)
 else if (numR w).1 = 0 then (⟨st.told, st.sat, st.model, true⟩, 0)
 else if st.model.length + 1 ≤ 1048576 ∧ ((numR w).1 = (st.model.length : Int) + 1 ∨ (numR w).1 = -((st.model.length : Int) + 1)) then (⟨st.told, st.sat, st.model ++ [decide (0 < (numR w).1)], st.ended⟩, 0)
 else (st, 32)
def wordsA (st : ASt) : List ByteArray → ASt × Int
 | [] => (st, 0)
 | w :: r => if (wordA st w).2 = 0 then wordsA (wordA st w).1 r else wordA st w
def lineA (st : ASt) (ws : List ByteArray) : ASt × Int :=
 if st.told = false then firstA st ws
 else if st.sat = false then (st, 35)
 else if (w_ ws 0).toList = kV then wordsA st (ws.drop 1)
 else (st, 35)
theorem wordA_length (st : ASt) (w : ByteArray) (h : st.model.length ≤ 1048576) : (wordA st w).1.model.length ≤ 1048576 := by
 unfold wordA
 split
 ·exact h
 ·split
  ·exact h
  ·split
   ·exact h
   ·split
    ·rename_i hc; simp only [List.length_append, List.length_cons, List.length_nil]; omega
    ·exact h
theorem wordsA_length (ws : List ByteArray) : ∀ st : ASt, st.model.length ≤ 1048576 → (wordsA st ws).1.model.length ≤ 1048576 := by
 induction ws with
 | nil => intro st h; exact h
 | cons w r ih =>
  intro st h
  simp only [wordsA]
  split
  ·exact ih _ (wordA_length st w h)
  ·exact wordA_length st w h
theorem lineA_length (st : ASt) (ws : List ByteArray) (h : st.model.length ≤ 1048576) : (lineA st ws).1.model.length ≤ 1048576 := by
 unfold lineA firstA
 repeat' split
 all_goals first | exact h | exact wordsA_length _ _ h
theorem w_at {w w' : World} {base A : Nat} {ws : List ByteArray} {n c : Nat} (h : w.ownsRow base 9 1 (.slice (some ⟨A, 0, none⟩) n c) n (ws.map Value.string)) (hk : K9 w w') (j : Nat) (hj : j < ws.length) : w'.cell? ⟨A, j, none⟩ = some (.string (w_ ws j)) := by
 have := words_row h hk j hj
 unfold w_
 rw [List.getD_eq_getElem?_getD, List.getElem?_eq_getElem hj]
 exact this
set_option maxHeartbeats 8000000 in
set_option maxRecDepth 100000 in
theorem first_walk (w0 : World) (g : Nat) (st : ASt) (w : World) (A c base : Nat) (ws : List ByteArray) (hR : Af w0 w g st w) (hrow : w.ownsRow base 9 1 (.slice (some ⟨A, 0, none⟩) ws.length c) ws.length (ws.map Value.string)) (hlen : ws.length ≤ 1000000000000) :
  Calls Tryz.prog 73 #[.pointer (some ⟨g, 0, none⟩), .slice (some ⟨A, 0, none⟩) ws.length c] w fun e w' => e = .returned (.int .i64 (firstA st ws).2) ∧ Af w0 w g (firstA st ws).1 w' := by
 obtain ⟨vm, hV0⟩ := hR
 have f0 := blk_frozen hV0.blk 0
 have f1 := blk_frozen hV0.blk 1
 have b0 : w.cell? ⟨g, 0, none⟩ = some (.bool st.told) := (blk_cell hV0.blk 0).trans rfl
 have b1 : w.cell? ⟨g, 1, none⟩ = some (.bool st.sat) := (blk_cell hV0.blk 1).trans rfl
 have HV := Aside0.mk hV0
 by_cases hl : ws.length = 2
 ·have x0 := w_at hrow (K9.refl w) 0 (by omega)
  have x1 := w_at hrow (K9.refl w) 1 (by omega)
  have hf : firstA st ws = (if (w_ ws 0).toList = kS then (if (w_ ws 1).toList = kSat then (⟨true, true, st.model, st.ended⟩, 0) else if (w_ ws 1).toList = kUns then (⟨true, false, st.model, st.ended⟩, 0) else (st, 35)) else (st, 35)) := by unfold firstA; rw [if_pos hl]
  rw [hf, hl]
  obtain ⟨p, hp⟩ : ∃ p, w_ ws 0 = p := ⟨_, rfl⟩
  obtain ⟨q, hq⟩ : ∃ q, w_ ws 1 = q := ⟨_, rfl⟩
  rw [hp] at x0
  rw [hq] at x1
  rw [hp, hq]
  clear hV0 hrow hl hp hq hf
  by_cases h0 : p.toList = kS
  ·rw [if_pos h0]
   have c0 : (p.toList == [115]) = true := beq_iff_eq.2 h0
   have c1 : (p.toList != [115]) = false := bne_eq_false_iff_eq.2 h0
   clear h0
   by_cases h1 : q.toList = kSat
   ·rw [if_pos h1]
    have d0 : (q.toList == [83, 65, 84, 73, 83, 70, 73, 65, 66, 76, 69]) = true := beq_iff_eq.2 h1
    have d1 : (q.toList != [83, 65, 84, 73, 83, 70, 73, 65, 66, 76, 69]) = false := bne_eq_false_iff_eq.2 h1
    clear h1
    go_enter Tryz.func73, Tryz.ntmps73
    go_wp2_with fail
    go_ret
    exact ⟨rfl, vm, HV.out.first true⟩
   ·rw [if_neg h1]
    have d0 : (q.toList == [83, 65, 84, 73, 83, 70, 73, 65, 66, 76, 69]) = false := beq_eq_false_iff_ne.2 h1
    have d1 : (q.toList != [83, 65, 84, 73, 83, 70, 73, 65, 66, 76, 69]) = true := bne_iff_ne.2 h1
    clear h1
    by_cases h2 : q.toList = kUns
    ·rw [if_pos h2]
     have e0 : (q.toList == [85, 78, 83, 65, 84, 73, 83, 70, 73, 65, 66, 76, 69]) = true := beq_iff_eq.2 h2
     have e1 : (q.toList != [85, 78, 83, 65, 84, 73, 83, 70, 73, 65, 66, 76, 69]) = false := bne_eq_false_iff_eq.2 h2
     clear h2
     go_enter Tryz.func73, Tryz.ntmps73
     go_wp2_with fail
     go_ret
     exact ⟨rfl, vm, HV.out.first false⟩
    ·rw [if_neg h2]
     have e0 : (q.toList == [85, 78, 83, 65, 84, 73, 83, 70, 73, 65, 66, 76, 69]) = false := beq_eq_false_iff_ne.2 h2
     have e1 : (q.toList != [85, 78, 83, 65, 84, 73, 83, 70, 73, 65, 66, 76, 69]) = true := bne_iff_ne.2 h2
     clear h2
     go_enter Tryz.func73, Tryz.ntmps73
     go_wp2_with fail
     go_ret
     exact ⟨rfl, vm, HV.out⟩
  ·rw [if_neg h0]
   have c0 : (p.toList == [115]) = false := beq_eq_false_iff_ne.2 h0
   have c1 : (p.toList != [115]) = true := bne_iff_ne.2 h0
   clear h0
   go_enter Tryz.func73, Tryz.ntmps73
   go_wp2_with fail
   go_ret
   exact ⟨rfl, vm, HV.out⟩
 ·have hf : firstA st ws = (st, 35) := by unfold firstA; rw [if_neg hl]
  rw [hf]
  have c0 : ((ws.length : Int) == 2) = false := beq_eq_false_iff_ne.2 (by omega)
  have c1 : ((ws.length : Int) != 2) = true := bne_iff_ne.2 (by omega)
  clear hV0 hrow hf hl
  go_enter Tryz.func73, Tryz.ntmps73
  go_wp2_with fail
  go_ret
  exact ⟨rfl, vm, HV.out⟩
theorem wordsA_drop (ws : List ByteArray) (st : ASt) (j : Nat) (hj : j < ws.length) : wordsA st (ws.drop j) = if (wordA st ws[j]).2 = 0 then wordsA (wordA st ws[j]).1 (ws.drop (j + 1)) else wordA st ws[j] := by
 rw [List.drop_eq_getElem_cons hj, wordsA]
set_option maxHeartbeats 8000000 in
set_option maxRecDepth 100000 in
theorem tell_words (w0 : World) (g : Nat) (st : ASt) (w : World) (A c base : Nat) (ws : List ByteArray) (hR : Af w0 w g st w) (hrow : w.ownsRow base 9 1 (.slice (some ⟨A, 0, none⟩) ws.length c) ws.length (ws.map Value.string)) (hz : ∀ x ∈ ws, x.size ≤ 4294967296)
  (ht : st.told = true) (hsat : st.sat = true) (hv : (w_ ws 0).toList = kV) (hn : 0 < ws.length) (hlen : ws.length ≤ 1000000000000) (hm : st.model.length ≤ 1048576) :
  Calls Tryz.prog 53 #[.pointer (some ⟨g, 0, none⟩), .slice (some ⟨A, 0, none⟩) ws.length c] w fun e w' => e = .returned (.int .i64 (wordsA st (ws.drop 1)).2) ∧ Af w0 w g (wordsA st (ws.drop 1)).1 w' := by
 obtain ⟨R, hRR⟩ : ∃ R, wordsA st (ws.drop 1) = R := ⟨_, rfl⟩
 rw [hRR]
 have HRR := Aside0.mk hRR
 clear hRR
 obtain ⟨vm, hV0⟩ := hR
 have b0 : w.cell? ⟨g, 0, none⟩ = some (.bool st.told) := (blk_cell hV0.blk 0).trans rfl
 have b1 : w.cell? ⟨g, 1, none⟩ = some (.bool st.sat) := (blk_cell hV0.blk 1).trans rfl
 rw [ht] at b0
 rw [hsat] at b1
 have x0 := w_at hrow (K9.refl w) 0 hn
 obtain ⟨p, hp⟩ : ∃ p, w_ ws 0 = p := ⟨_, rfl⟩
 rw [hp] at x0 hv
 have c0 : (p.toList == [118]) = true := beq_iff_eq.2 hv
 have c1 : (p.toList != [118]) = false := bne_eq_false_iff_eq.2 hv
 have hcl : ws.length ≤ c := by
  rcases hrow.2 with ⟨h', _⟩ | ⟨g', cap', cur, h', hle, _⟩
  ·simp at h'
  ·simp only [Value.slice.injEq] at h'
   obtain ⟨_, _, rfl⟩ := h'
   first | exact hle | omega
 have HV0 := Aside0.mk hV0
 have HROW := Aside0.mk hrow
 have HZ := Aside0.mk hz
 have HM := Aside0.mk hm
 have HLEN := Aside0.mk hlen
 obtain ⟨m, hm1⟩ : ∃ m, ws.length = m + 1 := ⟨ws.length - 1, by omega⟩
 have HM1 := Aside0.mk hm1
 clear hV0 hrow hz ht hsat hp hv hm hlen
 rw [hm1] at hcl
 rw [hm1]
 have hmm : m ≤ 1000000000000 := by have := HLEN.out; omega
 clear hm1 hn
 by_cases hc1 : c = 1
 ·have hm0 : m = 0 := by omega
  subst hm0
  have hd : wordsA st (ws.drop 1) = (st, 0) := by rw [List.drop_of_length_le (by have := HM1.out; omega)]; rfl
  have HD := Aside0.mk (HRR.out.symm.trans hd)
  subst hc1
  clear hd
  go_enter Tryz.func53, Tryz.ntmps53
  go_wp2_with fail
  go_loopw [32] (fun jv w' => jv = .int .i64 0 ∧ Aside0 (w = w')) (fun jv _ => 0)
  case atStart => exact ⟨rfl, ⟨rfl⟩⟩
  case round =>
   obtain ⟨rfl, hw⟩ := hrel
   obtain rfl := hw.out
   go_wp2_with fail
   go_ret
   rw [HD.out]
   exact ⟨rfl, _, HV0.out⟩
 ·go_enter Tryz.func53, Tryz.ntmps53
  go_wp2_with fail
  go_loopw [32] (fun jv w' => ∃ (j : Nat) (st' : ASt), jv = .int .i64 j ∧ j ≤ m ∧ Aside0 (wordsA st' (ws.drop (j + 1)) = R) ∧ Aside0 (st'.model.length ≤ 1048576) ∧ Aside0 (Af w0 w g st' w')) (fun jv _ => m - (intOf jv).toNat)
  case atStart => exact ⟨0, st, rfl, Nat.zero_le _, HRR, HM, ⟨_, HV0.out⟩⟩
  case round =>
   obtain ⟨j, st', rfl, hj, hT, hB, hR⟩ := hrel
   obtain ⟨vm', hV⟩ := hR.out
   by_cases hlt : j < m
   ·have hx := words_row HROW.out hV.k9 (j + 1) (by have := HM1.out; omega)
    have hzj := HZ.out (ws[j + 1]'(by have := HM1.out; omega)) (List.getElem_mem _)
    have hdr := wordsA_drop ws st' (j + 1) (by have := HM1.out; omega)
    rw [hT.out] at hdr
    obtain ⟨q, hq⟩ : ∃ q, ws[j + 1]'(by have := HM1.out; omega) = q := ⟨_, rfl⟩
    rw [hq] at hx hzj hdr
    have hx2 : wr.cell? ⟨A, 1 + j, none⟩ = some (.string q) := by rw [Nat.add_comm]; exact hx
    have NW := Aside0.mk (number_walk q (by omega))
    obtain ⟨n, ok, hn⟩ : ∃ n ok, numR q = (n, ok) := ⟨_, _, rfl⟩
    rw [hn] at NW
    obtain ⟨Am, cm, em⟩ := Kd.R_slice hV.l
    subst em
    have HV := Aside0.mk hV
    have c2 : wr.cell? ⟨g, 2, none⟩ = some (.slice Am st'.model.length cm) := (blk_cell hV.blk 2).trans rfl
    have c3 : wr.cell? ⟨g, 3, none⟩ = some (.bool st'.ended) := (blk_cell hV.blk 3).trans rfl
    have hmb := hB.out
    clear hV hq
    cases hen : st'.ended with
    | true =>
     have hw : wordA st' q = (st', 35) := by unfold wordA; rw [hen, if_pos rfl]
     rw [hw] at hdr
     simp only at hdr
     rw [if_neg (show ¬ ((35 : Int) = 0) by decide)] at hdr
     have HD := Aside0.mk hdr
     rw [hen] at c3
     clear hw hdr hn hen
     go_wp2_with fail
     go_ret
     rw [HD.out]
     exact ⟨rfl, _, HV.out⟩
    | false =>
     have hwa : wordA st' q = if ok = false then (st', 31) else if n = 0 then (⟨st'.told, st'.sat, st'.model, true⟩, 0) else if st'.model.length + 1 ≤ 1048576 ∧ (n = (st'.model.length : Int) + 1 ∨ n = -((st'.model.length : Int) + 1)) then (⟨st'.told, st'.sat, st'.model ++ [decide (0 < n)], st'.ended⟩, 0) else (st', 32) := by
      unfold wordA
      rw [hen, hn, if_neg (by decide)]
     rw [hen] at c3
     have HWA := Aside0.mk hwa
     have HDR := Aside0.mk hdr
     clear hwa hdr hn hen
     go_wp2_with fail
     refine (NW.out _).mono ?_
     rintro e w6 ⟨rfl, hq⟩
     have HV6 := Aside0.mk (show AfV w0 w g (.slice Am st'.model.length cm) st' w6 by obtain ⟨nd, rfl⟩ := hq; exact HV.out.on (pw_below_drewN (Below.refl _ _) nd))
     clear hq c2 c3 hx hx2
     have c2 : w6.cell? ⟨g, 2, none⟩ = some (.slice Am st'.model.length cm) := (blk_cell HV6.out.blk 2).trans rfl
     have c3 : w6.cell? ⟨g, 3, none⟩ = some (.bool st'.ended) := (blk_cell HV6.out.blk 3).trans rfl
     have f2 := blk_frozen HV6.out.blk 2
     have f3 := blk_frozen HV6.out.blk 3
     cases ok with
     | false =>
      have hdr := HDR.out
      rw [show wordA st' q = (st', 31) from by rw [HWA.out, if_pos rfl]] at hdr
      simp only at hdr
      rw [if_neg (show ¬ ((31 : Int) = 0) by decide)] at hdr
      have HD := Aside0.mk hdr
      clear hdr
      go_wp2_with fail
      go_ret
      rw [HD.out]
      exact ⟨rfl, _, HV6.out⟩
     | true =>
      by_cases h0 : n = 0
      ·subst h0
       have hdr := HDR.out
       rw [show wordA st' q = (⟨st'.told, st'.sat, st'.model, true⟩, 0) from by rw [HWA.out, if_neg (by decide), if_pos rfl]] at hdr
       simp only at hdr
       (first | rw [if_pos trivial] at hdr | rw [if_pos rfl] at hdr)
       have HD := Aside0.mk hdr.symm
       have HVE := Aside0.mk HV6.out.ends
       clear hdr
       go_wp2_with fail
       go_roundw
       case rel => exact ⟨j + 1, _, by go_num, by omega, HD, hB, ⟨_, HVE.out⟩⟩
       case measure => simp [intOf]; omega
      ·have cn0 : (n == 0) = false := beq_eq_false_iff_ne.2 h0
       have hwb := HWA.out
       rw [if_neg (by decide), if_neg h0] at hwb
       have HWB := Aside0.mk hwb
       clear hwb h0
       by_cases hmx : st'.model.length + 1 ≤ 1048576
       ·have dm : decide ((st'.model.length : Int) + 1 ≤ 1048576) = true := decide_eq_true (by omega)
        have dm' : decide (st'.model.length + 1 ≤ 1048576) = true := decide_eq_true hmx
        by_cases hnn : n = (st'.model.length : Int) + 1 ∨ n = -((st'.model.length : Int) + 1)
        ·have hdr := HDR.out
         rw [show wordA st' q = (⟨st'.told, st'.sat, st'.model ++ [decide (0 < n)], st'.ended⟩, 0) from by rw [HWB.out, if_pos ⟨hmx, hnn⟩]] at hdr
         simp only at hdr
         (first | rw [if_pos trivial] at hdr | rw [if_pos rfl] at hdr)
         have HD := Aside0.mk hdr.symm
         have HBD := Aside0.mk (show (st'.model.length + 1) * 1 ≤ 140737488355328 by omega)
         have HMX := Aside0.mk hmx
         obtain ⟨bb, hbb⟩ : ∃ bb : Bool, decide (0 < n) = bb := ⟨_, rfl⟩
         by_cases hp : n = (st'.model.length : Int) + 1
         ·have e0 : (n == (st'.model.length : Int) + 1) = true := beq_iff_eq.2 hp
          have d0 : decide (0 < n) = true := decide_eq_true (by omega)
          rw [d0] at HD
          have hml : st'.model.length ≤ 1048576 := by omega
          clear hnn hp hmx hdr hbb
          go_wp2_with (first | (at_builtin; refine Kd.R_append Kd.bool (w0 := w0) w0.heap.size rfl (.tmp 78) (.tmp 81) 25 4 (.bool false) 1 rfl Tryz.underlying25 info4 rfl (by decide) (by omega) (.slice Am st'.model.length cm) st'.model true [.bool true] (fun k_ => k_ ≠ g) (fun _ => False) rfl (by simp [Act.eval, World.setCell, World.drewN]) ?aP (fun _ hk => hk.elim) ?aF ?aO ?aB ?aS ?aL ?_; (case aP => exact rfl); (case aF => exact (fun k hk e => by subst e; have := blk_lt HV6.out.blk; omega)); (case aO => exact HV6.out.l); (case aB => exact HV6.out.below); (case aS => exact HV6.out.below.size); (case aL => exact HBD.out); intro v1 w5 ho hb hg hat; obtain ⟨Ao, co, eo⟩ := Kd.R_slice ho; subst eo; have hbk := blk_grown HV6.out.blk hg (Kd.R_ne HV6.out.l HV6.out.blk (by decide)); have y2 := blk_frozen hbk 2; have x2 : w5.cell? ⟨g, 2, none⟩ = some (.slice Am st'.model.length cm) := (blk_cell hbk 2).trans rfl; have HR5 := Aside0.mk (AfV.appended HV6.out ho hb hg); clear ho hb hg hat hbk))
          go_roundw
          case rel =>
           have HR6 := HR5.out
           rw [show (st'.model ++ [true]).length = st'.model.length + 1 by simp] at HR6
           exact ⟨j + 1, _, by go_num, by omega, HD, ⟨by simp only [List.length_append, List.length_cons, List.length_nil]; have := HMX.out; omega⟩, ⟨_, HR6⟩⟩
          case measure => simp [intOf]; omega
         ·have e0 : (n == (st'.model.length : Int) + 1) = false := beq_eq_false_iff_ne.2 hp
          have hq : n = -((st'.model.length : Int) + 1) := hnn.resolve_left hp
          have e1 : (n == -((st'.model.length : Int) + 1)) = true := beq_iff_eq.2 hq
          have d0 : decide (0 < n) = false := decide_eq_false (by omega)
          rw [d0] at HD
          have hml : st'.model.length ≤ 1048576 := by omega
          clear hq
          clear hnn hp hmx hdr hbb
          go_wp2_with (first | (at_builtin; refine Kd.R_append Kd.bool (w0 := w0) w0.heap.size rfl (.tmp 78) (.tmp 81) 25 4 (.bool false) 1 rfl Tryz.underlying25 info4 rfl (by decide) (by omega) (.slice Am st'.model.length cm) st'.model false [.bool false] (fun k_ => k_ ≠ g) (fun _ => False) rfl (by simp [Act.eval, World.setCell, World.drewN]) ?aP (fun _ hk => hk.elim) ?aF ?aO ?aB ?aS ?aL ?_; (case aP => exact rfl); (case aF => exact (fun k hk e => by subst e; have := blk_lt HV6.out.blk; omega)); (case aO => exact HV6.out.l); (case aB => exact HV6.out.below); (case aS => exact HV6.out.below.size); (case aL => exact HBD.out); intro v1 w5 ho hb hg hat; obtain ⟨Ao, co, eo⟩ := Kd.R_slice ho; subst eo; have hbk := blk_grown HV6.out.blk hg (Kd.R_ne HV6.out.l HV6.out.blk (by decide)); have y2 := blk_frozen hbk 2; have x2 : w5.cell? ⟨g, 2, none⟩ = some (.slice Am st'.model.length cm) := (blk_cell hbk 2).trans rfl; have HR5 := Aside0.mk (AfV.appended HV6.out ho hb hg); clear ho hb hg hat hbk))
          go_roundw
          case rel =>
           have HR6 := HR5.out
           rw [show (st'.model ++ [false]).length = st'.model.length + 1 by simp] at HR6
           exact ⟨j + 1, _, by go_num, by omega, HD, ⟨by simp only [List.length_append, List.length_cons, List.length_nil]; have := HMX.out; omega⟩, ⟨_, HR6⟩⟩
          case measure => simp [intOf]; omega
        ·have e0 : (n == (st'.model.length : Int) + 1) = false := beq_eq_false_iff_ne.2 (fun e => hnn (.inl e))
         have e1 : (n == -((st'.model.length : Int) + 1)) = false := beq_eq_false_iff_ne.2 (fun e => hnn (.inr e))
         have hdr := HDR.out
         rw [show wordA st' q = (st', 32) from by rw [HWB.out, if_neg (fun e => hnn e.2)]] at hdr
         simp only at hdr
         rw [if_neg (show ¬ ((32 : Int) = 0) by decide)] at hdr
         have HD := Aside0.mk hdr
         have hml : st'.model.length ≤ 1048576 := by omega
         clear hdr hmx hnn
         go_wp2_with fail
         go_ret
         rw [HD.out]
         exact ⟨rfl, _, HV6.out⟩
       ·have dm : decide ((st'.model.length : Int) + 1 ≤ 1048576) = false := decide_eq_false (by omega)
        have dm' : decide (st'.model.length + 1 ≤ 1048576) = false := decide_eq_false hmx
        have hdr := HDR.out
        rw [show wordA st' q = (st', 32) from by rw [HWB.out, if_neg (fun e => hmx e.1)]] at hdr
        simp only at hdr
        rw [if_neg (show ¬ ((32 : Int) = 0) by decide)] at hdr
        have HD := Aside0.mk hdr
        clear hdr hmx
        go_wp2_with fail
        go_ret
        rw [HD.out]
        exact ⟨rfl, _, HV6.out⟩
   ·obtain rfl : j = m := by omega
    have hT2 := hT.out
    rw [List.drop_of_length_le (by have := HM1.out; omega)] at hT2
    have HD := Aside0.mk (hT2.symm.trans (show wordsA st' [] = (st', 0) from rfl))
    clear hT2
    go_wp2_with fail
    go_ret
    rw [HD.out]
    exact ⟨rfl, _, hV⟩
end Go.Proofs.YtlhajfepcggjaaaGreatDoor.R

set_option linter.unusedVariables false
set_option linter.unusedSimpArgs false
namespace Go.Proofs.YtlhajfepcggjaaaGreatDoor.R
open Go.RowKit Go.Lib Go.Proofs.YtlhajfepcggjaaaGreatDoorW.PrintWords Go.Proofs.YtlhajfepcggjaaaGreatDoorW.PrintLast Go.Proofs.YtlhajfepcggjaaaGreatDoorW.PrintMore

set_option maxHeartbeats 8000000 in
set_option maxRecDepth 100000 in
theorem tell_line (w0 : World) (g : Nat) (st : ASt) (w : World) (A c base : Nat) (ws : List ByteArray) (hR : Af w0 w g st w) (hrow : w.ownsRow base 9 1 (.slice (some ⟨A, 0, none⟩) ws.length c) ws.length (ws.map Value.string)) (hz : ∀ x ∈ ws, x.size ≤ 4294967296)
  (hn : 0 < ws.length) (hlen : ws.length ≤ 1000000000000) (hm : st.model.length ≤ 1048576) :
  Calls Tryz.prog 53 #[.pointer (some ⟨g, 0, none⟩), .slice (some ⟨A, 0, none⟩) ws.length c] w fun e w' => e = .returned (.int .i64 (lineA st ws).2) ∧ Af w0 w g (lineA st ws).1 w' := by
 cases ht : st.told with
 | false =>
  have he : lineA st ws = firstA st ws := by unfold lineA; rw [if_pos ht]
  rw [he]
  have FW := Aside0.mk (first_walk w0 g st w A c base ws hR hrow hlen)
  obtain ⟨vm, hV⟩ := hR
  have b0 : w.cell? ⟨g, 0, none⟩ = some (.bool st.told) := (blk_cell hV.blk 0).trans rfl
  rw [ht] at b0
  obtain ⟨R, hRR⟩ : ∃ R, firstA st ws = R := ⟨_, rfl⟩
  rw [hRR] at FW
  rw [hRR]
  clear he hV hrow hz hn hm ht hRR
  go_enter Tryz.func53, Tryz.ntmps53
  go_wp2_with fail
  refine FW.out.mono ?_
  rintro e w2 ⟨rfl, h2⟩
  have H2 := Aside0.mk h2
  clear h2
  go_wp2_with fail
  go_ret
  exact ⟨rfl, H2.out⟩
 | true =>
  cases hs : st.sat with
  | false =>
   have he : lineA st ws = (st, 35) := by unfold lineA; rw [if_neg (by rw [ht]; decide), if_pos hs]
   rw [he]
   obtain ⟨vm, hV⟩ := hR
   have b0 : w.cell? ⟨g, 0, none⟩ = some (.bool st.told) := (blk_cell hV.blk 0).trans rfl
   have b1 : w.cell? ⟨g, 1, none⟩ = some (.bool st.sat) := (blk_cell hV.blk 1).trans rfl
   rw [ht] at b0
   rw [hs] at b1
   have HV := Aside0.mk hV
   clear he hV hrow hz hn hm ht hs
   go_enter Tryz.func53, Tryz.ntmps53
   go_wp2_with fail
   go_ret
   exact ⟨rfl, _, HV.out⟩
  | true =>
   by_cases hv : (w_ ws 0).toList = kV
   ·have he : lineA st ws = wordsA st (ws.drop 1) := by unfold lineA; rw [if_neg (by rw [ht]; decide), if_neg (by rw [hs]; decide), if_pos hv]
    rw [he]
    exact tell_words w0 g st w A c base ws hR hrow hz ht hs hv hn hlen hm
   ·have he : lineA st ws = (st, 35) := by unfold lineA; rw [if_neg (by rw [ht]; decide), if_neg (by rw [hs]; decide), if_neg hv]
    rw [he]
    have x0 := w_at hrow (K9.refl w) 0 hn
    obtain ⟨p, hp⟩ : ∃ p, w_ ws 0 = p := ⟨_, rfl⟩
    rw [hp] at x0 hv
    have c0 : (p.toList == [118]) = false := beq_eq_false_iff_ne.2 hv
    have c1 : (p.toList != [118]) = true := bne_iff_ne.2 hv
    obtain ⟨vm, hV⟩ := hR
    have b0 : w.cell? ⟨g, 0, none⟩ = some (.bool st.told) := (blk_cell hV.blk 0).trans rfl
    have b1 : w.cell? ⟨g, 1, none⟩ = some (.bool st.sat) := (blk_cell hV.blk 1).trans rfl
    rw [ht] at b0
    rw [hs] at b1
    have HV := Aside0.mk hV
    clear he hV hrow hz hm ht hs hv hp
    go_enter Tryz.func53, Tryz.ntmps53
    go_wp2_with fail
    go_ret
    exact ⟨rfl, _, HV.out⟩
/-- What is missing at the end. -/
def endA (st : ASt) : Int := if st.told = false then 35 else if st.sat = true ∧ st.ended = false then 33 else 0
/-- The lines, one behind the other. -/
def linesT : List (List UInt8) → Nat → ASt → ASt × Int × Nat
 | [], n, st => (st, endA st, if endA st = 0 then 0 else n + 1)
 | l :: r, n, st => if idleB l then linesT r (n + 1) st else if (lineA st (wordsB (mkB l))).2 = 0 then linesT r (n + 1) (lineA st (wordsB (mkB l))).1 else ((lineA st (wordsB (mkB l))).1, (lineA st (wordsB (mkB l))).2, n + 1)
def readA (s : ByteArray) : ASt × Int × Nat := linesT (linesA s.data.toList) 0 ast0
/-- What dimacs.ReadAnswer comes to. -/
def dimacs_ReadAnswer.f (s : ByteArray) : Option (Bool × List Bool × Int × Int) :=
 if s.size ≤ 4294967280 then (if (readA s).2.1 = 0 then some ((readA s).1.sat, (readA s).1.model, 0, 0) else some (false, [], (readA s).2.1, ((readA s).2.2 : Nat))) else none
theorem af_new (w : World) : Af w w w.heap.size ast0 (w.alloc (.cells #[.bool false, .bool false, .slice none 0 0, .bool false] 91)) :=
 ⟨_, heap_alloc_new w _, Kd.R_nil _ _ _ _ _, (Below.refl _ w).alloc (Nat.le_refl _) _, Nat.le_refl _, K9.below (K9.refl w) ((Below.refl _ w).alloc (Nat.le_refl _) _)⟩
theorem Af.base {w0 ws w : World} {g : Nat} {st : ASt} (h : Af w0 ws g st w) : Af w0 w g st w := by
 obtain ⟨vm, h⟩ := h
 exact ⟨vm, h.blk, h.l, h.below, h.le, K9.refl w⟩
theorem Af.on {w0 ws w w' : World} {g : Nat} {st : ASt} (h : Af w0 ws g st w) (hb : Below w.heap.size w w') : Af w0 ws g st w' := by
 obtain ⟨vm, h⟩ := h
 exact ⟨vm, h.on hb⟩
theorem Af.k9 {w0 ws w : World} {g : Nat} {st : ASt} (h : Af w0 ws g st w) : K9 ws w := by
 obtain ⟨vm, h⟩ := h
 exact h.k9
/-- What ReadAnswer leaves. -/
def PostA (w : World) (r : ASt × Int × Nat) (e : Ending) (w' : World) : Prop :=
 ∃ v : Value, e = .returned (.tuple #[.bool (if r.2.1 = 0 then r.1.sat else false), v, .int .i64 r.2.1, .int .i64 (if r.2.1 = 0 then (0 : Int) else (r.2.2 : Int))]) ∧ Kd.R Kd.bool 4 w' w.heap.size (fun _ => True) v (if r.2.1 = 0 then r.1.model else []) ∧ Below w.heap.size w w'
theorem PostA.bad {w w' : World} {r : ASt × Int × Nat} {e : Int} {n : Nat} (h1 : r.2.1 = e) (h0 : e ≠ 0) (h2 : r.2.2 = n) (hb : Below w.heap.size w w') : PostA w r (.returned (.tuple #[.bool false, .slice none 0 0, .int .i64 e, .int .i64 (n : Int)])) w' := by
 refine ⟨.slice none 0 0, ?_, ?_, hb⟩
 ·rw [h1, if_neg h0, if_neg h0, h2]
 ·rw [h1, if_neg h0]; exact Kd.R_nil _ _ _ _ _
theorem PostA.good {w w' : World} {r : ASt × Int × Nat} {b : Bool} {l : List Bool} {v : Value} (h1 : r.2.1 = 0) (h2 : r.1.sat = b) (h3 : r.1.model = l) (hl : Kd.R Kd.bool 4 w' w.heap.size (fun _ => True) v l) (hb : Below w.heap.size w w') : PostA w r (.returned (.tuple #[.bool b, v, .int .i64 0, .int .i64 0])) w' := by
 refine ⟨v, ?_, ?_, hb⟩
 ·rw [h1, if_pos rfl, if_pos rfl, h2]
 ·rw [h1, if_pos rfl, h3]; exact hl
set_option maxHeartbeats 8000000 in
set_option maxRecDepth 100000 in
theorem answer_walk (a0 : ByteArray) (w : World) (hE : Env w) (hs : a0.size ≤ 4294967280) : Calls Tryz.prog 32 #[.string a0] w (PostA w (readA a0)) := by
 have hli := lines_is a0 hs
 have hml := massD_lines a0.data.toList.length a0.data.toList (Nat.le_refl _)
 obtain ⟨LL, hLL⟩ : ∃ LL, linesA a0.data.toList = LL := ⟨_, rfl⟩
 have hsz : a0.data.toList.length = a0.size := by simp
 have hrd : linesT LL 0 ast0 = readA a0 := by rw [← hLL]; rfl
 rw [hLL] at hli hml
 obtain ⟨r, hr⟩ : ∃ r, readA a0 = r := ⟨_, rfl⟩
 rw [hr] at hrd
 rw [hr]
 have hlen : LL.length ≤ 4294967280 := by omega
 have HML := Aside0.mk (show ∀ x ∈ LL, x.length ≤ 4294967280 from fun x hx => by have := hml.2.2 x hx; omega)
 have HE := Aside0.mk hE
 have HRD := Aside0.mk hrd
 have HN := Aside0.mk (af_new w)
 obtain ⟨w1, hw1⟩ : ∃ w1, w.alloc (.cells #[.bool false, .bool false, .slice none 0 0, .bool false] 91) = w1 := ⟨_, rfl⟩
 rw [hw1] at HN
 have HE1 := Aside0.mk (show Env w1 from hE.below (by rw [← hw1]; exact (Below.refl _ w).alloc (Nat.le_refl _) _))
 have HLC := Aside0.mk (dimacs_lines.calls a0 (LL.map mkB) w1 HE1.out hli)
 clear hE hrd hml hli hLL hr hsz
 go_enter Tryz.func32, Tryz.ntmps32
 go_wp2_with fail
 refine HLC.out.mono ?_
 rintro e w2 ⟨v, rfl, hRL, hb2⟩
 obtain ⟨Av, cv, hv, hcl, hCL⟩ := Kd.R_reads hRL
 rw [List.length_map] at hv
 subst hv
 have hown : w2.ownsRow w1.heap.size 9 1 (.slice Av LL.length cv) LL.length ((LL.map mkB).map Value.string) := by
  have := Kd.own_of_R hRL
  simpa [encs] using this
 have HOWN := Aside0.mk hown
 have HR2 := Aside0.mk (HN.out.on hb2)
 clear hRL hb2 hcl hCL hown
 go_wp2_with fail
 go_loopw [17] (fun jv w' => ∃ (i : Nat) (st : ASt), jv = .int .i64 i ∧ i ≤ LL.length ∧ Aside0 (linesT (LL.drop i) i st = r) ∧ Aside0 (st.model.length ≤ 1048576) ∧ Aside0 (∃ ws, Af w ws w.heap.size st w') ∧ Aside0 (K9 w2 w')) (fun jv _ => LL.length - (intOf jv).toNat)
 case atStart => exact ⟨0, ast0, rfl, Nat.zero_le _, HRD, ⟨by simp [ast0]⟩, ⟨_, HR2.out⟩, ⟨K9.refl _⟩⟩
 case round =>
  obtain ⟨i, st, rfl, hi, hF, hB, hR, hK⟩ := hrel
  by_cases hlt : i < LL.length
  ·obtain ⟨gL, rfl⟩ : ∃ gL, Av = some ⟨gL, 0, none⟩ := by
    rcases HOWN.out.2 with ⟨_, h0⟩ | ⟨g', cap', cur, h', _⟩
    ·omega
    ·simp only [Value.slice.injEq] at h'
     exact ⟨g', h'.1⟩
   have hx := words_row HOWN.out hK.out i (by rw [List.length_map]; exact hlt)
   rw [List.getElem_map] at hx
   have hl := HML.out LL[i] (List.getElem_mem hlt)
   have hf := hF.out
   rw [List.drop_eq_getElem_cons hlt, linesT] at hf
   obtain ⟨l, hl0⟩ : ∃ l, LL[i] = l := ⟨_, rfl⟩
   rw [hl0] at hx hl hf
   have HID := Aside0.mk (idle_is l (by omega))
   have HF := Aside0.mk hf
   clear hf hl0
   go_wp2_with fail
   ((with_reducible refine (dimacs_idle.calls (mkB l) _ _ HID.out).mono ?_))
   rintro e w3 ⟨rfl, hb3⟩
   obtain ⟨ws0, hR0⟩ := hR.out
   have HR3 := Aside0.mk (hR0.on hb3)
   have HK3 := Aside0.mk (hK.out.below hb3)
   clear hb3 hR0
   cases hid : idleB l with
   | true =>
    have hf := HF.out
    rw [hid, if_pos rfl] at hf
    have HF2 := Aside0.mk hf
    clear hf
    go_wp2_with fail
    go_roundw
    case rel => exact ⟨i + 1, st, by go_num, by omega, HF2, hB, ⟨_, HR3.out⟩, HK3⟩
    case measure => simp [intOf]; omega
   | false =>
    have hf := HF.out
    rw [hid, if_neg (by decide)] at hf
    obtain ⟨wz, hwz⟩ : ∃ wz, wordsB (mkB l) = wz := ⟨_, rfl⟩
    have hwl := wordsB_length (mkB l)
    have hws := wordsB_size (mkB l)
    have hne : wz ≠ [] := by
     intro e
     unfold idleB at hid
     rw [hwz, e, Bool.or_eq_false_iff] at hid
     exact absurd hid.2 (by decide)
    have hcalls := fun (W : World) => dimacs_words.calls (mkB l) wz W (by unfold dimacs_words.f; rw [if_pos (by rw [mkB_size]; omega), hwz])
    rw [mkB_size] at hwl hws
    rw [hwz] at hf hwl hws
    have HF2 := Aside0.mk hf
    have HWC := Aside0.mk hcalls
    have HWS := Aside0.mk hws
    have HNE := Aside0.mk hne
    have HWL := Aside0.mk (show wz.length ≤ 1000000000000 by omega)
    clear hf hcalls hws hne hwz hwl
    go_wp2_with fail
    ((with_reducible refine (HWC.out _).mono ?_))
    rintro e w4 ⟨v, rfl, hRW, hb4⟩
    obtain ⟨gW, cW, hvW, hoW⟩ : ∃ gW cW, v = .slice (some ⟨gW, 0, none⟩) wz.length cW ∧ w4.ownsRow w3.heap.size 9 1 (.slice (some ⟨gW, 0, none⟩) wz.length cW) wz.length (wz.map Value.string) := by
     have h0 := Kd.own_of_R hRW
     rcases h0.2 with ⟨_, h0'⟩ | ⟨g', cap', cur, rfl, _⟩
     ·exact absurd (List.eq_nil_of_length_eq_zero h0') HNE.out
     ·exact ⟨g', cap', rfl, h0⟩
    subst hvW
    have HR4 := Aside0.mk (HR3.out.on hb4).base
    have HK4 := Aside0.mk (HK3.out.below hb4)
    have HOW := Aside0.mk hoW
    clear hRW hb4 hoW
    go_wp2_with fail
    ((with_reducible refine (tell_line w w.heap.size st w4 gW cW _ wz HR4.out HOW.out (fun x hx => by have := HWS.out x hx; omega) (List.length_pos_iff.2 HNE.out) HWL.out hB.out).mono ?_))
    rintro e w6 ⟨rfl, hR6⟩
    have HK6 := Aside0.mk (HK4.out.trans hR6.k9)
    have HR6 := Aside0.mk hR6
    clear hR6
    obtain ⟨st2, er, hld⟩ : ∃ st2 er, lineA st wz = (st2, er) := ⟨_, _, rfl⟩
    have hf := HF2.out
    have hll := lineA_length st wz hB.out
    rw [hld] at hf HR6 hll
    simp only at hf hll
    rw [hld]
    have HLL := Aside0.mk hll
    clear hld hll
    by_cases he : er = 0
    ·subst he
     rw [if_pos rfl] at hf
     have HF3 := Aside0.mk hf
     clear hf
     go_wp2_with fail
     go_roundw
     case rel => exact ⟨i + 1, st2, by go_num, by omega, HF3, HLL, ⟨_, HR6.out⟩, HK6⟩
     case measure => simp [intOf]; omega
    ·rw [if_neg he] at hf
     have HF3 := Aside0.mk hf
     have ene : ((er : Int) != 0) = true := bne_iff_ne.2 he
     have ene2 : ((er : Int) == 0) = false := beq_eq_false_iff_ne.2 he
     have HEN := Aside0.mk he
     obtain ⟨vm, hV⟩ := HR6.out
     have HB6 := Aside0.mk hV.below
     clear hf he hV
     go_wp2_with fail
     refine bodyPost_ret (results_list (rs := [.tmp 2, .tmp 3, .tmp 4, .tmp 5]) rfl (by simp) (.tmp (.tmp (.tmp (.tmp .nil))))) rfl ?_
     exact PostA.bad (n := i + 1) (by rw [← HF3.out]) HEN.out (by rw [← HF3.out]) HB6.out
  ·obtain rfl : i = LL.length := by omega
   have hf := hF.out
   rw [List.drop_length, linesT] at hf
   obtain ⟨ws0, vm, hV⟩ := hR.out
   obtain ⟨Am, cm, em⟩ := Kd.R_slice hV.l
   subst em
   have c0 : wr.cell? ⟨w.heap.size, 0, none⟩ = some (.bool st.told) := (blk_cell hV.blk 0).trans rfl
   have c1 : wr.cell? ⟨w.heap.size, 1, none⟩ = some (.bool st.sat) := (blk_cell hV.blk 1).trans rfl
   have c2 : wr.cell? ⟨w.heap.size, 2, none⟩ = some (.slice Am st.model.length cm) := (blk_cell hV.blk 2).trans rfl
   have c3 : wr.cell? ⟨w.heap.size, 3, none⟩ = some (.bool st.ended) := (blk_cell hV.blk 3).trans rfl
   have HV := Aside0.mk hV
   clear hV
   cases ht : st.told with
   | false =>
    have he : endA st = 35 := by unfold endA; rw [if_pos ht]
    rw [he] at hf
    have HF3 := Aside0.mk hf
    rw [ht] at c0
    clear hf he ht
    go_wp2_with fail
    refine bodyPost_ret (results_list (rs := [.tmp 2, .tmp 3, .tmp 4, .tmp 5]) rfl (by simp) (.tmp (.tmp (.tmp (.tmp .nil))))) rfl ?_
    exact PostA.bad (n := LL.length + 1) (by rw [← HF3.out]) (by decide) (by rw [← HF3.out, if_neg (by decide)]) HV.out.below
   | true =>
    rw [ht] at c0
    by_cases hse : st.sat = true ∧ st.ended = false
    ·have he : endA st = 33 := by unfold endA; rw [if_neg (by rw [ht]; decide), if_pos hse]
     rw [he] at hf
     have HF3 := Aside0.mk hf
     rw [hse.1] at c1
     rw [hse.2] at c3
     clear hf he ht hse
     go_wp2_with fail
     refine bodyPost_ret (results_list (rs := [.tmp 2, .tmp 3, .tmp 4, .tmp 5]) rfl (by simp) (.tmp (.tmp (.tmp (.tmp .nil))))) rfl ?_
     exact PostA.bad (n := LL.length + 1) (by rw [← HF3.out]) (by decide) (by rw [← HF3.out, if_neg (by decide)]) HV.out.below
    ·have he : endA st = 0 := by unfold endA; rw [if_neg (by rw [ht]; decide), if_neg hse]
     rw [he] at hf
     have HF3 := Aside0.mk hf
     cases hsa : st.sat with
     | false =>
      rw [hsa] at c1
      have HSA := Aside0.mk hsa
      clear hf he ht hse hsa
      go_wp2_with fail
      go_quiet (fail)
      go_wp2_with fail
      refine bodyPost_ret (results_list (rs := [.tmp 2, .tmp 3, .tmp 4, .tmp 5]) rfl (by simp) (.tmp (.tmp (.tmp (.tmp .nil))))) rfl ?_
      exact PostA.good (by rw [← HF3.out]) (by rw [← HF3.out]; exact HSA.out) (by rw [← HF3.out]) (Kd.R_drewN (Kd.R_mono HV.out.l (fun _ _ => trivial)) _) (pw_below_drewN HV.out.below _)
     | true =>
      have hen : st.ended = true := by
       cases h : st.ended with
       | true => rfl
       | false => exact absurd ⟨hsa, h⟩ hse
      rw [hsa] at c1
      rw [hen] at c3
      have HSA := Aside0.mk hsa
      clear hf he ht hse hsa hen
      go_wp2_with fail
      go_quiet (fail)
      go_wp2_with fail
      refine bodyPost_ret (results_list (rs := [.tmp 2, .tmp 3, .tmp 4, .tmp 5]) rfl (by simp) (.tmp (.tmp (.tmp (.tmp .nil))))) rfl ?_
      exact PostA.good (by rw [← HF3.out]) (by rw [← HF3.out]; exact HSA.out) (by rw [← HF3.out]) (Kd.R_drewN (Kd.R_mono HV.out.l (fun _ _ => trivial)) _) (pw_below_drewN HV.out.below _)
theorem dimacs_ReadAnswer.calls (a0 : ByteArray) (r1 : Bool) (r2 : List Bool) (r3 r4 : Int) (w : World) (hE : Env w) (h : dimacs_ReadAnswer.f a0 = some (r1, r2, r3, r4)) :
  Calls Tryz.prog 32 #[.string a0] w fun e w' => ∃ v1_ : Value, e = .returned (.tuple #[.bool r1, v1_, .int .i64 r3, .int .i64 r4]) ∧ Kd.R Kd.bool 4 w' w.heap.size (fun _ => True) v1_ r2 ∧ Below w.heap.size w w' := by
 unfold dimacs_ReadAnswer.f at h
 by_cases hs : a0.size ≤ 4294967280
 ·rw [if_pos hs] at h
  have hw := answer_walk a0 w hE hs
  by_cases he : (readA a0).2.1 = 0
  ·rw [if_pos he] at h
   refine hw.mono ?_
   rintro e w' ⟨v, rfl, hl, hb⟩
   rw [if_pos he] at hl
   rw [if_pos he, if_pos he, he]
   injection h with h
   injection h with h1 h
   injection h with h2 h
   injection h with h3 h4
   subst h1 h2 h3 h4
   exact ⟨v, rfl, hl, hb⟩
  ·rw [if_neg he] at h
   refine hw.mono ?_
   rintro e w' ⟨v, rfl, hl, hb⟩
   rw [if_neg he] at hl
   rw [if_neg he, if_neg he]
   injection h with h
   injection h with h1 h
   injection h with h2 h
   injection h with h3 h4
   subst h1 h2 h3 h4
   exact ⟨v, rfl, hl, hb⟩
 ·rw [if_neg hs] at h
  cases h
end Go.Proofs.YtlhajfepcggjaaaGreatDoor.R

set_option linter.unusedVariables false
set_option linter.unusedSimpArgs false
namespace Go.Proofs.YtlhajfepcggjaaaGreatDoor.U
open Go.Proofs.YtlhajfepcggjaaaGreatDoor.R
open Go.Proofs.YtlhajfepcggjaaaGreatDoor.R Go.RowKit Go.Lib Go.Proofs.YtlhajfepcggjaaaGreatDoorW.PrintWords Go.Proofs.YtlhajfepcggjaaaGreatDoorW.PrintLast Go.Proofs.YtlhajfepcggjaaaGreatDoorW.PrintMore

def toA (r : ASt × Int × Nat) : Bool × List Bool × Int × Int := if r.2.1 = 0 then (r.1.sat, r.1.model, 0, 0) else (false, [], r.2.1, (r.2.2 : Int))
/-- What is answered for the words behind the first line, which said 'satisfiable'; prev: the line of the word ahead. -/
def bodyA (T : Nat) : Int → List S84 → ASt → Bool × List Bool × Int × Int
 | _, [], st => if endA st = 0 then (st.sat, st.model, 0, 0) else (false, [], endA st, ((T + 1 : Nat) : Int))
 | prev, w :: r, st => if w.f1 = prev then (if (wordA st w.f0).2 = 0 then bodyA T prev r (wordA st w.f0).1 else (false, [], (wordA st w.f0).2, w.f1))
  else if w.f0.toList = kV then bodyA T w.f1 r st else (false, [], 35, w.f1)
theorem wordA_told (st : ASt) (w : ByteArray) : (wordA st w).1.told = st.told ∧ (wordA st w).1.sat = st.sat := by
 unfold wordA
 repeat' split
 all_goals exact ⟨rfl, rfl⟩
theorem wordsA_told : ∀ (ws : List ByteArray) (st : ASt), (wordsA st ws).1.told = st.told ∧ (wordsA st ws).1.sat = st.sat := by
 intro ws
 induction ws with
 | nil => intro st; exact ⟨rfl, rfl⟩
 | cons w r ih =>
  intro st
  have h := wordA_told st w
  have h2 := ih (wordA st w).1
  unfold wordsA
  split
  ·exact ⟨h2.1.trans h.1, h2.2.trans h.2⟩
  ·exact h
theorem body_wordsA (T n : Nat) (rest : List S84) : ∀ (ws : List ByteArray) (st : ASt), bodyA T (n : Int) (ws.map (at_ n) ++ rest) st = if (wordsA st ws).2 = 0 then bodyA T (n : Int) rest (wordsA st ws).1 else (false, [], (wordsA st ws).2, (n : Int)) := by
 intro ws
 induction ws with
 | nil => intro st; rfl
 | cons w r ih =>
  intro st
  have e : bodyA T (n : Int) ((w :: r).map (at_ n) ++ rest) st = if (wordA st w).2 = 0 then bodyA T (n : Int) (r.map (at_ n) ++ rest) (wordA st w).1 else (false, [], (wordA st w).2, (n : Int)) := by
   show bodyA T (n : Int) (at_ n w :: (r.map (at_ n) ++ rest)) st = _
   rw [bodyA, if_pos (show (at_ n w).f1 = (n : Int) from rfl)]
   rfl
  have e2 : wordsA st (w :: r) = if (wordA st w).2 = 0 then wordsA (wordA st w).1 r else wordA st w := rfl
  rw [e, e2]
  by_cases h : (wordA st w).2 = 0
  ·rw [if_pos h, if_pos h, ih]
  ·rw [if_neg h, if_neg h, if_neg h]
theorem linesT_cons (l : List UInt8) (r : List (List UInt8)) (n : Nat) (st : ASt) : linesT (l :: r) n st = if idleB l then linesT r (n + 1) st else if (lineA st (wordsB (mkB l))).2 = 0 then linesT r (n + 1) (lineA st (wordsB (mkB l))).1 else ((lineA st (wordsB (mkB l))).1, (lineA st (wordsB (mkB l))).2, n + 1) := rfl
theorem toA_nil (n : Nat) (st : ASt) : toA (linesT [] n st) = if endA st = 0 then (st.sat, st.model, 0, 0) else (false, [], endA st, ((n + 1 : Nat) : Int)) := by
 have e : linesT [] n st = (st, endA st, if endA st = 0 then 0 else n + 1) := rfl
 rw [e]
 unfold toA
 simp only
 by_cases h : endA st = 0
 ·rw [if_pos h, if_pos h]
 ·rw [if_neg h, if_neg h, if_neg h]
theorem idle_ne {l : List UInt8} (h : idleB l = false) : wordsB (mkB l) ≠ [] := by
 intro e
 unfold idleB at h
 rw [e] at h
 simp at h
theorem lines_bodyA : ∀ (L : List (List UInt8)) (n : Nat) (prev : Int) (st : ASt), st.told = true → st.sat = true → prev ≤ (n : Int) → toA (linesT L n st) = bodyA (n + L.length) prev (spkB (L.map mkB) n) st := by
 intro L
 induction L with
 | nil =>
  intro n prev st ht hs hp
  rw [toA_nil]
  rfl
 | cons l r ih =>
  intro n prev st ht hs hp
  rw [linesT_cons, spk_cons, List.length_cons, show n + (r.length + 1) = n + 1 + r.length by omega]
  cases hi : idleB l with
  | true => rw [if_pos rfl, if_pos rfl, List.nil_append]; exact ih (n + 1) prev st ht hs (by omega)
  | false =>
   have hne := idle_ne hi
   obtain ⟨a, az, ha⟩ : ∃ a az, wordsB (mkB l) = a :: az := by
    cases h : wordsB (mkB l) with
    | nil => exact absurd h hne
    | cons a az => exact ⟨a, az, rfl⟩
   rw [ha]
   have hl : lineA st (a :: az) = if a.toList = kV then wordsA st az else (st, 35) := by
    unfold lineA
    rw [if_neg (by rw [ht]; decide), if_neg (by rw [hs]; decide)]
    rfl
   simp only [Bool.false_eq_true, if_false]
   rw [hl]
   have e : bodyA (n + 1 + r.length) prev ((a :: az).map (at_ (n + 1)) ++ spkB (r.map mkB) (n + 1)) st = if a.toList = kV then bodyA (n + 1 + r.length) ((n + 1 : Nat) : Int) (az.map (at_ (n + 1)) ++ spkB (r.map mkB) (n + 1)) st else (false, [], 35, ((n + 1 : Nat) : Int)) := by
    show bodyA (n + 1 + r.length) prev (at_ (n + 1) a :: (az.map (at_ (n + 1)) ++ spkB (r.map mkB) (n + 1))) st = _
    have hne : ¬ ((at_ (n + 1) a).f1 = prev) := by show ¬ (((n + 1 : Nat) : Int) = prev); omega
    rw [bodyA, if_neg hne]
    rfl
   rw [e]
   by_cases hv : a.toList = kV
   ·rw [if_pos hv, if_pos hv, body_wordsA]
    by_cases h : (wordsA st az).2 = 0
    ·rw [if_pos h, if_pos h]
     have := wordsA_told az st
     exact ih (n + 1) _ _ (this.1.trans ht) (this.2.trans hs) (by omega)
    ·rw [if_neg h, if_neg h]
     unfold toA
     simp only
     rw [if_neg h]
   ·rw [if_neg hv, if_neg hv]
    rfl
/-- What is answered behind a first line that said 'unsatisfiable'. -/
def unsA (st : ASt) : List S84 → Bool × List Bool × Int × Int
 | [] => (false, st.model, 0, 0)
 | x :: _ => (false, [], 35, x.f1)
theorem lines_uns : ∀ (L : List (List UInt8)) (n : Nat) (st : ASt), st.told = true → st.sat = false → toA (linesT L n st) = unsA st (spkB (L.map mkB) n) := by
 intro L
 induction L with
 | nil =>
  intro n st ht hs
  rw [toA_nil]
  have he : endA st = 0 := by unfold endA; rw [if_neg (by rw [ht]; decide), if_neg (by rw [hs]; simp)]
  rw [if_pos he, hs]
  rfl
 | cons l r ih =>
  intro n st ht hs
  rw [linesT_cons, spk_cons]
  cases hi : idleB l with
  | true => rw [if_pos rfl, if_pos rfl, List.nil_append]; exact ih (n + 1) st ht hs
  | false =>
   have hne := idle_ne hi
   obtain ⟨a, az, ha⟩ : ∃ a az, wordsB (mkB l) = a :: az := by
    cases h : wordsB (mkB l) with
    | nil => exact absurd h hne
    | cons a az => exact ⟨a, az, rfl⟩
   rw [ha]
   have hl : lineA st (a :: az) = (st, 35) := by
    unfold lineA
    rw [if_neg (by rw [ht]; decide), if_pos hs]
   simp only [Bool.false_eq_true, if_false]
   rw [hl]
   rfl
/-- What is answered behind the first line. -/
def restA (T : Nat) (m : Int) (rest : List S84) (st : ASt) : Bool × List Bool × Int × Int := if st.sat = true then bodyA T m rest st else unsA st rest
theorem firstA_told (ws : List ByteArray) (h : (firstA ast0 ws).2 = 0) : (firstA ast0 ws).1.told = true := by
 unfold firstA at h ⊢
 split at h
 ·split at h
  ·split at h
   ·rename_i h1 h2 h3
    rw [if_pos h1, if_pos h2, if_pos h3]
   ·split at h
    ·rename_i h1 h2 h3 h4
     rw [if_pos h1, if_pos h2, if_neg h3, if_pos h4]
    ·cases h
  ·cases h
 ·cases h
theorem lines_firstA : ∀ (L : List (List UInt8)) (n : Nat), (spkB (L.map mkB) n = [] ∧ toA (linesT L n ast0) = (false, [], 35, ((n + L.length + 1 : Nat) : Int))) ∨
  ∃ (ws : List ByteArray) (m : Nat) (rest : List S84), ws ≠ [] ∧ spkB (L.map mkB) n = ws.map (at_ m) ++ rest ∧ (∀ x ∈ rest, x.f1 ≠ (m : Int)) ∧
   toA (linesT L n ast0) = if (firstA ast0 ws).2 = 0 then restA (n + L.length) (m : Int) rest (firstA ast0 ws).1 else (false, [], 35, (m : Int)) := by
 intro L
 induction L with
 | nil => intro n; exact Or.inl ⟨rfl, rfl⟩
 | cons l r ih =>
  intro n
  rw [linesT_cons, spk_cons, List.length_cons, show n + (r.length + 1) = n + 1 + r.length by omega]
  cases hi : idleB l with
  | true => rw [if_pos rfl, if_pos rfl, List.nil_append]; exact ih (n + 1)
  | false =>
   refine Or.inr ⟨wordsB (mkB l), n + 1, spkB (r.map mkB) (n + 1), idle_ne hi, by rw [if_neg (by decide)], fun x hx => ?_, ?_⟩
   ·have := spk_gt _ (n + 1) x hx
    omega
   ·have hl : lineA ast0 (wordsB (mkB l)) = firstA ast0 (wordsB (mkB l)) := by unfold lineA; rw [if_pos (show ast0.told = false from rfl)]
    rw [if_neg (by decide), hl]
    by_cases h : (firstA ast0 (wordsB (mkB l))).2 = 0
    ·rw [if_pos h, if_pos h]
     have ht := firstA_told _ h
     unfold restA
     cases hs : (firstA ast0 (wordsB (mkB l))).1.sat with
     | true =>
      rw [if_pos rfl]
      exact lines_bodyA r (n + 1) _ _ ht hs (Int.le_refl _)
     | false =>
      rw [if_neg (by decide)]
      exact lines_uns r (n + 1) _ ht hs
    ·rw [if_neg h, if_neg h]
     have h35 : (firstA ast0 (wordsB (mkB l))).2 = 35 := by
      unfold firstA at h ⊢
      repeat' split
      all_goals first | rfl | simp_all
     unfold toA
     simp only
     rw [if_neg h, h35]
end Go.Proofs.YtlhajfepcggjaaaGreatDoor.U

set_option linter.unusedVariables false
set_option linter.unusedSimpArgs false
namespace Go.Proofs.YtlhajfepcggjaaaGreatDoor.U
open Go.Proofs.YtlhajfepcggjaaaGreatDoor.R
open Go.Proofs.YtlhajfepcggjaaaGreatDoor.R Go.RowKit Go.Lib Go.Proofs.YtlhajfepcggjaaaGreatDoorW.PrintWords Go.Proofs.YtlhajfepcggjaaaGreatDoorW.PrintLast Go.Proofs.YtlhajfepcggjaaaGreatDoorW.PrintMore

theorem endA_on {st : ASt} (ht : st.told = true) (hs : st.sat = true) : endA st = if st.ended then 0 else 33 := by
 unfold endA
 rw [if_neg (by rw [ht]; decide)]
 cases he : st.ended with
 | true => rw [if_neg (by simp)]; rfl
 | false => rw [if_pos ⟨hs, rfl⟩]; rfl
theorem tell_l0 (X : List ByteArray) (hX : X.length ≤ 4398046511104) (l : List S84) (hl : l.length ≤ 4398046511104) (M : Nat) (hM : M ≤ 1099511627776) (hs : ∀ w ∈ l, w.f0.size ≤ M) (d : Nat) :
  ∀ (k i : Nat) (st : ASt), st.told = true → st.sat = true → st.model.length ≤ 1048576 → i < l.length → l.length - (i + 1) = d → d + M + 5 < k →
  depotref03_ReadAnswer.l0 k X l st.model st.ended ((i + 1 : Nat) : Int) = some (bodyA X.length (l.getD i ⟨ByteArray.empty, 0⟩).f1 (l.drop (i + 1)) st) := by
 induction d with
 | zero =>
  intro k i st ht hsa hm hi hd hk
  obtain ⟨k, rfl⟩ := succ_ofr hk
  rw [depotref03_ReadAnswer.l0, if_neg (by omega), List.drop_of_length_le (by omega), w64r (by omega) (by omega)]
  rw [bodyA, endA_on ht hsa]
  cases he : st.ended with
  | true =>
   first
    | (rw [if_pos rfl, if_pos rfl, if_pos rfl, hsa]; done)
    | (simp [hsa]; done)
  | false =>
   first
    | (simp; done)
    | (simp; omega)
 | succ d ih =>
  intro k i st ht hsa hm hi hd hk
  obtain ⟨k, rfl⟩ := succ_ofr hk
  have hlt : i + 1 < l.length := by omega
  have hsz := hs l[i + 1] (List.getElem_mem hlt)
  have hdr := List.drop_eq_getElem_cons hlt
  have hprev := Aside0.mk (show (l.getD i ⟨ByteArray.empty, 0⟩).f1 = (l[i]).f1 by rw [List.getD_eq_getElem?_getD, List.getElem?_eq_getElem hi]; rfl)
  have hnext := Aside0.mk (show (l.getD (i + 1) ⟨ByteArray.empty, 0⟩).f1 = (l[i + 1]).f1 by rw [List.getD_eq_getElem?_getD, List.getElem?_eq_getElem hlt]; rfl)
  have ew := Aside0.mk (show wrap64 (((i + 1 : Nat) : Int) - 1) = (i : Int) by rw [w64r (by omega) (by omega)]; omega)
  have en := Aside0.mk (show wrap64 (((i + 1 : Nat) : Int) + 1) = ((i + 1 + 1 : Nat) : Int) by rw [w64r (by omega) (by omega)]; omega)
  have c1 : ((i + 1 : Nat) : Int) < (l.length : Int) := by omega
  have c2 : (0 : Int) ≤ ((i + 1 : Nat) : Int) := by omega
  have c3 : (0 : Int) ≤ (i : Int) := by omega
  have c4 : (i : Int) < (l.length : Int) := by omega
  rw [depotref03_ReadAnswer.l0, if_pos c1, if_pos c2, ew.out, if_pos c3, if_pos c4, rdT_nat hlt, rdT_nat hi, en.out, hdr, hprev.out, bodyA]
  have hgo : ∀ st' : ASt, st'.told = true → st'.sat = true → st'.model.length ≤ 1048576 → depotref03_ReadAnswer.l0 k X l st'.model st'.ended ((i + 1 + 1 : Nat) : Int) = some (bodyA X.length (l[i + 1]).f1 (l.drop (i + 1 + 1)) st') := fun st' h1 h2 h3 => by
   have := ih k (i + 1) st' h1 h2 h3 hlt (by omega) (by omega)
   rw [hnext.out] at this
   exact this
  clear hprev hnext ew en
  by_cases hsame : (l[i + 1]).f1 = (l[i]).f1
  ·rw [if_pos hsame, if_pos hsame]
   rw [hsame] at hgo ⊢
   clear hsame
   have hT := word_tens (l[i + 1]).f0
   cases hen : st.ended with
   | true =>
    have e2 : wordA st (l[i + 1]).f0 = (st, 35) := by unfold wordA; rw [if_pos hen]
    rw [if_pos rfl, e2]
    rfl
   | false =>
    rw [if_neg (by decide), tens_is _ (by omega) k (by omega)]
    simp only [Option.bind_some]
    have hne : ¬ (st.ended = true) := by rw [hen]; decide
    cases ht2 : tensB (l[i + 1]).f0.data.toList with
    | false =>
     rw [ht2] at hT
     have e2 : wordA st (l[i + 1]).f0 = (st, 31) := by unfold wordA; rw [if_neg hne, if_pos hT]
     rw [if_neg (by decide), e2]
     rfl
    | true =>
     rw [ht2] at hT
     obtain ⟨v, hv, hn⟩ := word_val (l[i + 1]).f0 (by omega) ht2
     rw [if_pos rfl, hv]
     simp only [Option.bind_some]
     generalize hx : (numR (l[i + 1]).f0).1 = x at hn
     have hT' : ¬ (numR (l[i + 1]).f0).2 = false := by rw [hT]; decide
     unfold near at hn
     rw [show wrap64 ((st.model.length : Int) + 1) = (st.model.length : Int) + 1 from w64r (by omega) (by omega), show wrap64 (-((st.model.length : Int) + 1)) = -((st.model.length : Int) + 1) from w64r (by omega) (by omega)]
     by_cases h0 : v = 0
     ·have e2 : wordA st (l[i + 1]).f0 = (⟨st.told, st.sat, st.model, true⟩, 0) := by unfold wordA; rw [if_neg hne, if_neg hT', hx, if_pos (by omega)]
      rw [if_pos h0, e2, if_pos rfl]
      exact hgo ⟨st.told, st.sat, st.model, true⟩ ht hsa hm
     ·have hx0 : ¬ x = 0 := by omega
      rw [if_neg h0]
      by_cases hmx : (st.model.length : Int) + 1 ≤ 1048576
      ·rw [if_pos hmx]
       have hsm : st.model.length < 140737488355328 := by omega
       by_cases h1 : v = (st.model.length : Int) + 1
       ·have hxv : x = (st.model.length : Int) + 1 := by omega
        have e2 : wordA st (l[i + 1]).f0 = (⟨st.told, st.sat, st.model ++ [true], st.ended⟩, 0) := by
         unfold wordA
         rw [if_neg hne, if_neg hT', hx, if_neg hx0, if_pos ⟨by omega, .inl hxv⟩, decide_eq_true (by omega)]
        rw [if_pos h1, if_pos hsm, e2, if_pos rfl, beq_iff_eq.2 h1]
        have := hgo ⟨st.told, st.sat, st.model ++ [true], st.ended⟩ ht hsa (by simp only [List.length_append, List.length_cons, List.length_nil]; omega)
        rw [hen] at this ⊢
        exact this
       ·rw [if_neg h1]
        by_cases h2 : v = -((st.model.length : Int) + 1)
        ·have hxv : x = -((st.model.length : Int) + 1) := by omega
         have e2 : wordA st (l[i + 1]).f0 = (⟨st.told, st.sat, st.model ++ [false], st.ended⟩, 0) := by
          unfold wordA
          rw [if_neg hne, if_neg hT', hx, if_neg hx0, if_pos ⟨by omega, .inr hxv⟩, decide_eq_false (by omega)]
         rw [if_pos h2, if_pos hsm, e2, if_pos rfl, beq_eq_false_iff_ne.2 h1]
         have := hgo ⟨st.told, st.sat, st.model ++ [false], st.ended⟩ ht hsa (by simp only [List.length_append, List.length_cons, List.length_nil]; omega)
         rw [hen] at this ⊢
         exact this
        ·have e2 : wordA st (l[i + 1]).f0 = (st, 32) := by
          unfold wordA
          rw [if_neg hne, if_neg hT', hx, if_neg hx0, if_neg (by omega)]
         rw [if_neg h2, e2]
         rfl
      ·have e2 : wordA st (l[i + 1]).f0 = (st, 32) := by
        unfold wordA
        rw [if_neg hne, if_neg hT', hx, if_neg hx0, if_neg (by omega)]
       rw [if_neg hmx, e2]
       rfl
  ·rw [if_neg hsame, if_neg hsame]
   by_cases hv : ((l[i + 1]).f0).toList = kV
   ·rw [if_pos hv, if_pos (show ((l[i + 1]).f0).toList = ([118] : List UInt8) from hv)]
    exact hgo st ht hsa hm
   ·rw [if_neg hv, if_neg (show ¬ ((l[i + 1]).f0).toList = ([118] : List UInt8) from hv)]
theorem told_is (ws : List ByteArray) (hne : ws ≠ []) (n : Nat) (rest : List S84) (hB : ∀ x ∈ rest, x.f1 ≠ (n : Int)) (hl : (ws.map (at_ n) ++ rest).length ≤ 4398046511104) (k : Nat) (hk : ws.length < k) :
  depotref03_told.f k (ws.map (at_ n) ++ rest) = some (decide ((firstA ast0 ws).2 = 0)) := by
 have hA : ∀ x ∈ ws.map (at_ n), x.f1 = (n : Int) := fun x hx => by obtain ⟨w, _, rfl⟩ := List.mem_map.1 hx; rfl
 have hpos := List.length_pos_iff.2 hne
 have hh : depotref03_heading.f k (ws.map (at_ n) ++ rest) = some (ws.length : Int) := by
  unfold depotref03_heading.f
  have := heading_l0 (ws.map (at_ n)) rest n hA hB (by rw [List.length_map]; exact hpos) hl (ws.map (at_ n)).length k 0 (by omega) (by omega) (by rw [List.length_map]; omega)
  rw [List.length_map] at this
  exact this
 unfold depotref03_told.f
 rw [hh]
 simp only [Option.bind_some]
 by_cases h2 : ws.length = 2
 ·match ws, h2, hl, hh with
  | [a, b], _, hl, _ =>
   have hp0 : (0 : Int) < ((([a, b].map (at_ n) ++ rest).length : Nat) : Int) := by simp; omega
   have hp1 : (1 : Int) < ((([a, b].map (at_ n) ++ rest).length : Nat) : Int) := by simp; omega
   have e0 : (rd_T84 ([a, b].map (at_ n) ++ rest) 0).f0 = a := rfl
   have e1 : (rd_T84 ([a, b].map (at_ n) ++ rest) 1).f0 = b := rfl
   have ef : firstA ast0 [a, b] = (if a.toList = kS then (if b.toList = kSat then (⟨true, true, [], false⟩, 0) else if b.toList = kUns then (⟨true, false, [], false⟩, 0) else (ast0, 35)) else (ast0, 35)) := rfl
   rw [if_pos (show ((([a, b].length : Nat)) : Int) = 2 from rfl), if_pos hp0, e0, if_pos hp1, e1, ef]
   by_cases h0 : a.toList = kS
   ·rw [if_pos (show a.toList = ([115] : List UInt8) from h0), if_pos h0]
    by_cases h1 : b.toList = kSat
    ·rw [if_pos (show b.toList = ([83, 65, 84, 73, 83, 70, 73, 65, 66, 76, 69] : List UInt8) from h1), if_pos h1]
     rfl
    ·rw [if_neg (show ¬ b.toList = ([83, 65, 84, 73, 83, 70, 73, 65, 66, 76, 69] : List UInt8) from h1), if_neg h1]
     by_cases h3 : b.toList = kUns
     ·rw [if_pos h3, beq_iff_eq.2 (show b.toList = ([85, 78, 83, 65, 84, 73, 83, 70, 73, 65, 66, 76, 69] : List UInt8) from h3)]
      rfl
     ·rw [if_neg h3, beq_eq_false_iff_ne.2 (show b.toList ≠ ([85, 78, 83, 65, 84, 73, 83, 70, 73, 65, 66, 76, 69] : List UInt8) from h3)]
      rfl
   ·rw [if_neg (show ¬ a.toList = ([115] : List UInt8) from h0), if_neg h0]
    rfl
 ·rw [if_neg (by omega)]
  have ef : firstA ast0 ws = (ast0, 35) := by unfold firstA; rw [if_neg h2]
  rw [ef]
  rfl
theorem spk_mass : ∀ (L : List (List UInt8)) (n : Nat), (spkB (L.map mkB) n).length ≤ massD L := by
 intro L
 induction L with
 | nil => intro n; exact Nat.le_refl _
 | cons l r ih =>
  intro n
  rw [spk_cons, List.length_append]
  have h1 := ih (n + 1)
  have h2 := wordsB_length (mkB l)
  rw [mkB_size] at h2
  show _ ≤ l.length + 1 + massD r
  split
  ·rw [List.length_nil]; omega
  ·rw [List.length_map]; omega
theorem spk_small (M : Nat) : ∀ (X : List ByteArray) (n : Nat), (∀ x ∈ X, x.size ≤ M) → ∀ w ∈ spkB X n, w.f0.size ≤ M := by
 intro X
 induction X with
 | nil => intro n _ w h; simp [spkB] at h
 | cons a r ih =>
  intro n hx w h
  unfold spkB at h
  rcases List.mem_append.1 h with h | h
  ·split at h
   ·simp at h
   ·obtain ⟨y, hy, rfl⟩ := List.mem_map.1 h
    have h1 := wordsB_size a y hy
    have h2 := hx a List.mem_cons_self
    show y.size ≤ _
    omega
  ·exact ih (n + 1) (fun x hx' => hx x (List.mem_cons_of_mem _ hx')) w h
theorem answer_is (s : ByteArray) (hs : s.size ≤ 1048576) : ∃ K, ∀ k, K < k → depotref03_ReadAnswer.f k s = some (toA (readA s)) := by
 obtain ⟨M, hM0⟩ : ∃ M : Nat, M = 1048577 := ⟨_, rfl⟩
 have hsz : s.data.toList.length = s.size := by simp
 have hm := massD_lines _ s.data.toList (Nat.le_refl _)
 generalize hL : linesA s.data.toList = L at hm
 have hsp := spk_mass L 0
 have hX : (L.map mkB).length = L.length := List.length_map _
 have hXs : ∀ x ∈ L.map mkB, x.size ≤ M := fun x hx => by
  obtain ⟨l, hl, rfl⟩ := List.mem_map.1 hx
  have := hm.2.2 l hl
  rw [mkB_size]
  omega
 have hf0 := spk_small M (L.map mkB) 0 hXs
 refine ⟨(L.map mkB).length * (M + 4) + 20000000, fun k hk => ?_⟩
 unfold depotref03_ReadAnswer.f
 have hlines : depotref03_Lines.f k s = some (L.map mkB) := by
  have := lines_is s (by omega) k (by omega)
  rw [this, ← hL]
  show some ((linesL s.size s.data.toList).map mk_) = some ((linesL s.data.toList.length s.data.toList).map mkB)
  rw [hsz]
  rfl
 rw [hlines]
 simp only [Option.bind_some]
 rw [spoken_is (L.map mkB) M (by omega) (by omega) hXs (by omega) k (by omega)]
 simp only [Option.bind_some]
 have hrd : readA s = linesT L 0 ast0 := by unfold readA; rw [hL]
 rw [hrd]
 rcases lines_firstA L 0 with ⟨h1, h2⟩ | ⟨ws, m, rest, hne, h1, hB, h2⟩
 ·rw [h1, h2, if_pos (show ((([] : List S84).length : Nat) : Int) = 0 from rfl), w64r (by omega) (by omega), hX]
  congr 5
  omega
 ·rw [h1] at hsp hf0 ⊢
  rw [h2]
  have hpos := List.length_pos_iff.2 hne
  have hlen : (ws.map (at_ m) ++ rest).length = ws.length + rest.length := by rw [List.length_append, List.length_map]
  rw [if_neg (by omega), told_is ws hne m rest hB (by omega) k (by omega)]
  simp only [Option.bind_some]
  by_cases hf : (firstA ast0 ws).2 = 0
  ·have hw2 : ws.length = 2 := by
    by_cases h : ws.length = 2
    ·exact h
    ·unfold firstA at hf
     rw [if_neg h] at hf
     cases hf
   rw [decide_eq_true hf, if_pos rfl, if_pos hf, if_pos (by omega), show 0 + L.length = L.length by omega]
   match ws, hw2, hf, hlen, hsp, hf0 with
   | [a, b], _, hf, hlen, hsp, hf0 =>
    have ef : firstA ast0 [a, b] = (if a.toList = kS then (if b.toList = kSat then (⟨true, true, [], false⟩, 0) else if b.toList = kUns then (⟨true, false, [], false⟩, 0) else (ast0, 35)) else (ast0, 35)) := rfl
    rw [ef] at hf ⊢
    have e1 : (rd_T84 ([a, b].map (at_ m) ++ rest) 1).f0 = b := rfl
    rw [e1]
    have h0 : a.toList = kS := by
     by_cases h : a.toList = kS
     ·exact h
     ·rw [if_neg h] at hf; cases hf
    rw [if_pos h0] at hf ⊢
    by_cases hu : b.toList = kUns
    ·have hs2 : ¬ b.toList = kSat := by rw [hu]; decide
     rw [if_pos (show b.toList = ([85, 78, 83, 65, 84, 73, 83, 70, 73, 65, 66, 76, 69] : List UInt8) from hu), if_neg hs2, if_pos hu]
     have er : restA L.length (m : Int) rest ⟨true, false, [], false⟩ = unsA ⟨true, false, [], false⟩ rest := by unfold restA; rw [if_neg (by simp)]
     rw [er]
     cases rest with
     | nil => rfl
     | cons x r =>
      have hl2 : (2 : Int) < ((([a, b].map (at_ m) ++ x :: r).length : Nat) : Int) := by rw [hlen]; simp; omega
      rw [if_pos hl2, if_pos hl2]
      rfl
    ·rw [if_neg (show ¬ b.toList = ([85, 78, 83, 65, 84, 73, 83, 70, 73, 65, 66, 76, 69] : List UInt8) from hu)]
     rw [if_neg hu] at hf ⊢
     have hs2 : b.toList = kSat := by
      by_cases h : b.toList = kSat
      ·exact h
      ·rw [if_neg h] at hf; cases hf
     rw [if_pos hs2]
     have er : restA L.length (m : Int) rest ⟨true, true, [], false⟩ = bodyA L.length (m : Int) rest ⟨true, true, [], false⟩ := by unfold restA; rw [if_pos rfl]
     rw [er]
     have hr := tell_l0 (L.map mkB) (by omega) ([a, b].map (at_ m) ++ rest) (by omega) M (by omega) hf0 (([a, b].map (at_ m) ++ rest).length - 2) k 1 ⟨true, true, [], false⟩ rfl rfl (by simp) (by rw [hlen]; simp; omega) rfl (by omega)
     rw [hX] at hr
     exact hr
  ·have hf1 : (rd_T84 (ws.map (at_ m) ++ rest) 0).f1 = (m : Int) := by
    match ws, hne with
    | a :: r, _ => rfl
   rw [decide_eq_false hf, if_neg (show ¬ (false = true) by decide), if_pos (by omega), hf1, if_neg hf]
theorem sameBools_l0 (l : List Bool) (hl : l.length ≤ 4398046511104) (d : Nat) : ∀ (k i : Nat), i ≤ l.length → l.length - i = d → d < k → depotref00_SameBools.l0 k l l (i : Int) = some true := by
 induction d with
 | zero =>
  intro k i h0 hd hk
  obtain ⟨k, rfl⟩ := succ_ofr hk
  rw [depotref00_SameBools.l0, if_neg (by omega)]
 | succ d ih =>
  intro k i h0 hd hk
  obtain ⟨k, rfl⟩ := succ_ofr hk
  rw [depotref00_SameBools.l0, if_pos (by omega), if_pos (by omega), if_pos (by omega), if_neg (by simp), w64r (by omega) (by omega)]
  exact ih k (i + 1) (by omega) (by omega) (by omega)
theorem sameBools_self (l : List Bool) (hl : l.length ≤ 4398046511104) (k : Nat) (hk : l.length < k) : depotref00_SameBools.f k l l = some true := by
 unfold depotref00_SameBools.f
 rw [if_pos rfl]
 exact sameBools_l0 l hl l.length k 0 (by omega) (by omega) hk
theorem linesT_small : ∀ (L : List (List UInt8)) (n : Nat) (st : ASt), st.model.length ≤ 1048576 → (linesT L n st).1.model.length ≤ 1048576 := by
 intro L
 induction L with
 | nil => intro n st h; exact h
 | cons l r ih =>
  intro n st h
  rw [linesT_cons]
  have hl := lineA_length st (wordsB (mkB l)) h
  split
  ·exact ih (n + 1) st h
  ·split
   ·exact ih (n + 1) _ hl
   ·exact hl
end Go.Proofs.YtlhajfepcggjaaaGreatDoor.U

set_option linter.unusedVariables false
set_option linter.unusedSimpArgs false
namespace Go.Proofs.YtlhajfepcggjaaaGreatDoor.U
open Go.Proofs.YtlhajfepcggjaaaGreatDoor.R
open Go.Proofs.YtlhajfepcggjaaaGreatDoor.R Go.RowKit Go.Lib Go.Proofs.YtlhajfepcggjaaaGreatDoorW.PrintWords Go.Proofs.YtlhajfepcggjaaaGreatDoorW.PrintLast Go.Proofs.YtlhajfepcggjaaaGreatDoorW.PrintMore

theorem body_bound (T N : Nat) : ∀ (l : List S84) (st : FSt), st.opn.length + l.length ≤ N → (∀ c ∈ st.cls, c.length ≤ N) → (bodyD T l st).2.1.length ≤ st.cls.length + l.length ∧ ∀ c ∈ (bodyD T l st).2.1, c.length ≤ N := by
 intro l
 induction l with
 | nil =>
  intro st h1 h2
  have e : bodyD T [] st = if endD st = 0 then (st.vars, st.cls, 0, 0) else (0, [], endD st, ((T + 1 : Nat) : Int)) := rfl
  rw [e]
  split
  ·exact ⟨Nat.le_refl _, h2⟩
  ·exact ⟨Nat.zero_le _, fun c hc => by cases hc⟩
 | cons w r ih =>
  intro st h1 h2
  rw [List.length_cons] at h1 ⊢
  have e : bodyD T (w :: r) st = if (wordD st w.f0).2 = 0 then bodyD T r (wordD st w.f0).1 else (0, [], (wordD st w.f0).2, w.f1) := rfl
  rw [e]
  split
  ·have hw : ((wordD st w.f0).1 = st ∨ (wordD st w.f0).1 = ⟨st.headed, st.count, st.vars, st.cls ++ [st.opn], []⟩ ∨ ∃ x, (wordD st w.f0).1 = ⟨st.headed, st.count, st.vars, st.cls, st.opn ++ [x]⟩) := by
    unfold wordD
    split
    ·exact Or.inl rfl
    ·split
     ·exact Or.inr (Or.inl rfl)
     ·split
      ·exact Or.inr (Or.inr ⟨_, rfl⟩)
      ·exact Or.inl rfl
   rcases hw with hw | hw | ⟨x, hw⟩
   ·rw [hw]
    have := ih st (by omega) h2
    exact ⟨by omega, this.2⟩
   ·rw [hw]
    have := ih ⟨st.headed, st.count, st.vars, st.cls ++ [st.opn], []⟩ (by simp only [List.length_nil]; omega) (fun c hc => by
     rcases List.mem_append.1 hc with h | h
     ·exact h2 c h
     ·rw [List.mem_singleton.1 h]; omega)
    simp only [List.length_append, List.length_singleton] at this
    exact ⟨by omega, this.2⟩
   ·rw [hw]
    have := ih ⟨st.headed, st.count, st.vars, st.cls, st.opn ++ [x]⟩ (by simp only [List.length_append, List.length_singleton]; omega) h2
    exact ⟨by have := this.1; simp only at this; omega, this.2⟩
  ·exact ⟨Nat.zero_le _, fun c hc => by cases hc⟩
theorem readD_bound (s : ByteArray) (hs : s.size ≤ 1048576) : (toR (readD s)).2.1.length ≤ 1048577 ∧ ∀ c ∈ (toR (readD s)).2.1, c.length ≤ 1048577 := by
 have hsz : s.data.toList.length = s.size := by simp
 have hm := linesA_mass _ s.data.toList (Nat.le_refl _)
 have hrd : readD s = linesD (linesA s.data.toList) 0 fst0 := rfl
 rw [hrd]
 generalize linesA s.data.toList = L at hm
 have hsp := massA_spk L 0
 rcases lines_first L 0 with ⟨h1, h2⟩ | ⟨ws, m, rest, hne, h1, hB, h2⟩
 ·rw [h2]
  exact ⟨Nat.zero_le _, fun c hc => by cases hc⟩
 ·rw [h1, List.length_append] at hsp
  rw [h2]
  split
  ·have := body_bound (0 + L.length) 1048577 rest ⟨true, (headR ws).2.1, (headR ws).1, [], []⟩ (by simp only [List.length_nil]; omega) (fun c hc => by cases hc)
   simp only [List.length_nil] at this
   exact ⟨by omega, this.2⟩
  ·exact ⟨Nat.zero_le _, fun c hc => by cases hc⟩
theorem read_f (s : ByteArray) (hs : s.size ≤ 4294967280) : dimacs_Read.f s = some (toR (readD s)) := by
 unfold dimacs_Read.f
 rw [if_pos (by omega)]
 unfold toR
 by_cases h : (readD s).2.1 = 0
 ·rw [if_pos h, if_pos h]
 ·rw [if_neg h, if_neg h]
theorem answer_f (s : ByteArray) (hs : s.size ≤ 4294967280) : dimacs_ReadAnswer.f s = some (toA (readA s)) := by
 unfold dimacs_ReadAnswer.f
 rw [if_pos hs]
 unfold toA
 by_cases h : (readA s).2.1 = 0
 ·rw [if_pos h, if_pos h]
 ·rw [if_neg h, if_neg h]
theorem readA_bound (s : ByteArray) : (toA (readA s)).2.1.length ≤ 1048576 := by
 have := linesT_small (linesA s.data.toList) 0 ast0 (Nat.zero_le _)
 unfold toA
 split
 ·exact this
 ·exact Nat.zero_le _
end Go.Proofs.YtlhajfepcggjaaaGreatDoor.U
