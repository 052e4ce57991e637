/- dimacs' (*reader).line and (*reader).end: the walks. No conditions. dimacs' (*reader).line at a head, and (*reader).end: the walks. No conditions. dimacs.Read: what it comes to, for every text of at most 4294967280 bytes. No conditions. -/
import Derived.Test.YtlhajfepcggjaaaGreatDoorRx1
import Derived.Test.YtlhajfepcggjaaaGreatDoorELibD
import Derived.Deep.RegionLaw
import Derived.Deep.QuietTactic
import Derived.BigQuiet
set_option linter.unusedVariables false
set_option linter.unusedSimpArgs false
namespace Go.Proofs.YtlhajfepcggjaaaGreatDoor.R
open Go.RowKit Go.Lib Go.Proofs.YtlhajfepcggjaaaGreatDoorW.PrintWords Go.Proofs.YtlhajfepcggjaaaGreatDoorW.PrintLast Go.Proofs.YtlhajfepcggjaaaGreatDoorW.PrintMore

/-- Every row of strings that stood in w stands in w'. -/
def K9 (w w' : World) : Prop := ∀ (k : Nat) (cs : Array Value), w.heap[k]? = some (Obj.cells cs 9 (0, 0)) → w'.heap[k]? = some (Obj.cells cs 9 (0, 0))
theorem K9.refl (w : World) : K9 w w := fun _ _ h => h
theorem K9.below {a w w' : World} (h : K9 a w) (hb : Below w.heap.size w w') : K9 a w' := fun k cs hk => (hb.block k (blk_lt (h k cs hk))).trans (h k cs hk)
theorem K9.put {a w : World} (h : K9 a w) {g : Nat} {cs : Array Value} {t : Nat} (hg : w.heap[g]? = some (.cells cs t (0, 0))) (ht : 9 ≠ t) (i : Nat) (u : Value) : K9 a (w.setCell ⟨g, i, none⟩ u) := fun k c hk =>
 (Below.heap_setCell w ⟨g, i, none⟩ u k (blk_ne (h k c hk) hg ht)).trans (h k c hk)
theorem K9.grown {a w w' : World} (h : K9 a w) {row : Option Nat} (hg : w.grownBy w' row) {t : Nat} (hty : ∀ k, row = some k → ∃ cs, w.heap[k]? = some (.cells cs t (0, 0))) (ht : 9 ≠ t) : K9 a w' := fun k c hk =>
 (hg.block k (blk_lt (h k c hk)) (fun e => by
  obtain ⟨cs, hc⟩ := hty k e.symm
  exact blk_ne (h k c hk) hc ht rfl)).trans (h k c hk)
/-- What has been read of a formula. -/
structure FSt where
 headed : Bool
 count : Int
 vars : Int
 cls : List (List Int)
 opn : List Int
def fst0 : FSt := ⟨false, 0, 0, [], []⟩
abbrev kL : Kd (List Int) := Kd.slice 3 (Kd.int .i64)
/-- The reader's block and what hangs on it. -/
structure RfV (w0 ws : World) (g : Nat) (vc vo : Value) (st : FSt) (w : World) : Prop where
 blk : w.heap[g]? = some (.cells #[.bool st.headed, .int .i64 st.count, .int .i64 st.vars, vc, vo] 74 (0, 0))
 s : Kd.S kL 43 w w0.heap.size (fun k_ => k_ ≠ g ∧ some k_ ≠ vo.ownBlock) vc st.cls
 l : Kd.R (Kd.int .i64) 3 w w0.heap.size (fun k_ => k_ ≠ g) vo st.opn
 below : Below w0.heap.size w0 w
 le : w0.heap.size ≤ g
 k9 : K9 ws w
theorem RfV.on {w0 ws w w' : World} {g : Nat} {vc vo : Value} {st : FSt} (h : RfV w0 ws g vc vo st w) (hb : Below w.heap.size w w') : RfV w0 ws g vc vo st w' :=
 ⟨(hb.block g (blk_lt h.blk)).trans h.blk, Kd.S_below h.s hb, Kd.R_below h.l hb, h.below.trans (hb.mono h.below.size), h.le, h.k9.below hb⟩
/-- The reader is in the state st. -/
def Rf (w0 ws : World) (g : Nat) (st : FSt) (w : World) : Prop := ∃ vc vo, RfV w0 ws g vc vo st w
/-- A head's numbers put in. -/
theorem RfV.head {w0 ws w : World} {g : Nat} {vc vo : Value} {st : FSt} (h : RfV w0 ws g vc vo st w) (v c : Int) (b : Bool) :
  RfV w0 ws g vc vo ⟨b, c, v, st.cls, st.opn⟩ (((w.setCell ⟨g, 2, none⟩ (.int .i64 v)).setCell ⟨g, 1, none⟩ (.int .i64 c)).setCell ⟨g, 0, none⟩ (.bool b)) := by
 have b1 := blk_put h.blk 2 (.int .i64 v) rfl
 have b2 := blk_put b1 1 (.int .i64 c) rfl
 have b3 := blk_put b2 0 (.bool b) rfl
 refine ⟨b3, ?_, ?_, (((h.below.setCell (p := ⟨g, 2, none⟩) h.le _).setCell (p := ⟨g, 1, none⟩) h.le _).setCell (p := ⟨g, 0, none⟩) h.le _), h.le, (((h.k9.put h.blk (by decide) _ _).put b1 (by decide) _ _).put b2 (by decide) _ _)⟩
 ·exact Kd.S_far (Kd.S_far (Kd.S_far h.s (fun k hk => hk.1) _) (fun k hk => hk.1) _) (fun k hk => hk.1) _
 ·exact Kd.R_far (Kd.R_far (Kd.R_far h.l (fun k hk => hk) _) (fun k hk => hk) _) (fun k hk => hk) _
/-- A literal appended. -/
theorem RfV.appended {w0 ws w w1 : World} {g : Nat} {vc vo v1 : Value} {st : FSt} {n : Int} (h : RfV w0 ws g vc vo st w)
  (ho : Kd.R (Kd.int .i64) 3 w1 w0.heap.size (fun k_ => k_ ≠ g) v1 (st.opn ++ [n])) (hb : Below w0.heap.size w0 w1) (hg : w.grownBy w1 vo.ownBlock) (hat : v1.ownBlock = vo.ownBlock ∨ ∃ b, v1.ownBlock = some b ∧ w.heap.size ≤ b) :
  RfV w0 ws g vc v1 ⟨st.headed, st.count, st.vars, st.cls, st.opn ++ [n]⟩ (w1.setCell ⟨g, 4, none⟩ v1) := by
 have hbk := blk_grown h.blk hg (Kd.R_ne h.l h.blk (by decide))
 have hs := Kd.S_after (ok := fun k_ => k_ ≠ g) h.s hg hat
 exact ⟨blk_put hbk 4 _ rfl, Kd.S_far hs (fun k hk => hk.1) _, Kd.R_far ho (fun k hk => hk) _, hb.setCell (p := ⟨g, 4, none⟩) h.le _, h.le, (h.k9.grown hg (Kd.R_typed h.l) (by decide)).put hbk (by decide) _ _⟩
/-- A clause appended, the literals' row having gone over to it. -/
theorem RfV.closed {w0 ws w w1 : World} {g : Nat} {vc vo v1 : Value} {st : FSt} {ys : List (List Int)} (h : RfV w0 ws g vc vo st w)
  (ho : Kd.S kL 43 w1 w0.heap.size (fun k_ => k_ ≠ g) v1 ys) (hb : Below w0.heap.size w0 w1) (hg : w.grownBy w1 vc.ownBlock) :
  RfV w0 ws g v1 (.slice none 0 0) ⟨st.headed, st.count, st.vars, ys, []⟩ ((w1.setCell ⟨g, 3, none⟩ v1).setCell ⟨g, 4, none⟩ (.slice none 0 0)) := by
 have hbk := blk_grown h.blk hg (Kd.R_ne (Kd.S_R h.s) h.blk (by decide))
 refine ⟨blk_put (blk_put hbk 3 _ rfl) 4 _ rfl, ?_, Kd.R_nil _ _ _ _ _, ((hb.setCell (p := ⟨g, 3, none⟩) h.le _).setCell (p := ⟨g, 4, none⟩) h.le _), h.le, (((h.k9.grown hg (Kd.S_typed h.s) (by decide)).put hbk (by decide) _ _).put (blk_put hbk 3 _ rfl) (by decide) _ _)⟩
 exact Kd.S_mono (Kd.S_far (Kd.S_far ho (fun k hk => hk) _) (fun k hk => hk) _) (fun k hk => ⟨hk, by simp [Value.ownBlock]⟩)

/-- Is it a literal of one of so many variables? -/
def litV (vars n : Int) : Bool := decide (n ≠ 0 ∧ -1048576 ≤ n ∧ n ≤ 1048576) && decide ((n.natAbs : Int) ≤ vars)
/-- The next word behind the head. -/
def wordD (st : FSt) (w : ByteArray) : FSt × Int :=
 if (numR w).2 = false then (st, 31)
 else if (numR w).1 = 0 then (⟨st.headed, st.count, st.vars, st.cls ++ [st.opn], []⟩, 0)
 else if litV st.vars (numR w).1 then (⟨st.headed, st.count, st.vars, st.cls, st.opn ++ [(numR w).1]⟩, 0)
 else (st, 32)
def wordsD (st : FSt) : List ByteArray → FSt × Int
 | [] => (st, 0)
 | w :: r => if (wordD st w).2 = 0 then wordsD (wordD st w).1 r else wordD st w
theorem wordD_length (st : FSt) (w : ByteArray) : (wordD st w).1.cls.length ≤ st.cls.length + 1 ∧ (wordD st w).1.opn.length ≤ st.opn.length + 1 := by
 unfold wordD
 split
 ·simp
 ·split
  ·simp
  ·split <;> simp
theorem wordsD_length (ws : List ByteArray) : ∀ st : FSt, (wordsD st ws).1.cls.length ≤ st.cls.length + ws.length ∧ (wordsD st ws).1.opn.length ≤ st.opn.length + ws.length := by
 induction ws with
 | nil => intro st; simp [wordsD]
 | cons w r ih =>
  intro st
  simp only [wordsD]
  have h1 := wordD_length st w
  split
  ·have h2 := ih (wordD st w).1
   simp only [List.length_cons]
   omega
  ·simp only [List.length_cons]; omega
theorem wordsD_drop (ws : List ByteArray) (st : FSt) (j : Nat) (hj : j < ws.length) : wordsD st (ws.drop j) = if (wordD st ws[j]).2 = 0 then wordsD (wordD st ws[j]).1 (ws.drop (j + 1)) else wordD st ws[j] := by
 rw [List.drop_eq_getElem_cons hj, wordsD]
/-- A row of words stands as long as rows of strings do. -/
theorem words_row {w w' : World} {base A : Nat} {ws : List ByteArray} {n c : Nat} (h : w.ownsRow base 9 1 (.slice (some ⟨A, 0, none⟩) n c) n (ws.map Value.string)) (hk : K9 w w') (j : Nat) (hj : j < ws.length) : w'.cell? ⟨A, j, none⟩ = some (.string ws[j]) := by
 have h1 := h.cellAt j (by have := h.1; rw [List.length_map] at this; omega)
 rcases h.2 with ⟨h', _⟩ | ⟨g', cap', cur, h', _, hg, _⟩
 ·simp at h'
 ·simp only [Value.slice.injEq, Option.some.injEq, Addr.mk.injEq, and_true, true_and] at h'
  obtain ⟨rfl, rfl⟩ := h'
  have h2 := hk _ _ hg
  rw [Lib.cell_of_heap h2]
  rw [Lib.cell_of_heap hg] at h1
  rw [h1]
  simp [hj]
theorem formed_isR (x : Int) : lits_Formed.f x = some (decide (x ≠ 0 ∧ -1048576 ≤ x ∧ x ≤ 1048576)) := by
 unfold lits_Formed.f
 by_cases h : x = 0
 ·rw [if_pos h]; simp [h]
 ·rw [if_neg h]
  by_cases h1 : x ≥ -1048576
  ·rw [if_pos h1]; congr 1; rw [decide_eq_decide]; omega
  ·rw [if_neg h1]; congr 1; symm; rw [decide_eq_false_iff_not]; omega
theorem var_isR (x : Int) (h : x ≠ 0 ∧ -1048576 ≤ x ∧ x ≤ 1048576) : lits_Var.f x = some (x.natAbs : Int) := by
 unfold lits_Var.f
 rw [formed_isR, decide_eq_true h]
 simp only [Option.bind_some, if_true]
 by_cases hx : x < 0
 ·rw [if_pos hx]; congr 1; unfold wrap64; omega
 ·rw [if_neg hx]; congr 1; omega

theorem formed_q (n : Int) (b : Bool) (h : lits_Formed.f n = some b) {w : World} {m : Nat} : Calls Tryz.prog 64 #[.int .i64 n] (w.drewN m) fun e w'' => e = .returned (.bool b) ∧ ∃ k, w'' = w.drewN k :=
 Calls.quiet_of ((lits_Formed.calls n b _ h).mono fun _ _ ⟨he, hd⟩ => ⟨he, hd.out⟩)
theorem var_q (n r : Int) (h : lits_Var.f n = some r) {w : World} {m : Nat} : Calls Tryz.prog 56 #[.int .i64 n] (w.drewN m) fun e w'' => e = .returned (.int .i64 r) ∧ ∃ k, w'' = w.drewN k :=
 Calls.quiet_of ((lits_Var.calls n r _ h).mono fun _ _ ⟨he, hd⟩ => ⟨he, hd.out⟩)
set_option maxHeartbeats 8000000 in
set_option maxRecDepth 100000 in
theorem line_words (w0 : World) (g : Nat) (st : FSt) (w : World) (A c base : Nat) (ws : List ByteArray) (hR : Rf w0 w g st w) (hrow : w.ownsRow base 9 1 (.slice (some ⟨A, 0, none⟩) ws.length c) ws.length (ws.map Value.string)) (hz : ∀ x ∈ ws, x.size ≤ 4294967296)
  (hh : st.headed = true) (h1 : st.cls.length + ws.length ≤ 1000000000000) (h2 : st.opn.length + ws.length ≤ 1000000000000) :
  Calls Tryz.prog 43 #[.pointer (some ⟨g, 0, none⟩), .slice (some ⟨A, 0, none⟩) ws.length c] w fun e w' => e = .returned (.int .i64 (wordsD st ws).2) ∧ Rf w0 w g (wordsD st ws).1 w' := by
 obtain ⟨vc0, vo0, hV0⟩ := hR
 have b0 : w.cell? ⟨g, 0, none⟩ = some (.bool st.headed) := (blk_cell hV0.blk 0).trans rfl
 rw [hh] at b0
 have HV0 := Aside0.mk hV0
 have HROW := Aside0.mk hrow
 have HZ := Aside0.mk hz
 have HH := Aside0.mk hh
 have H1 := Aside0.mk h1
 have H2 := Aside0.mk h2
 clear hV0 hrow hz hh h1 h2
 go_enter Tryz.func43, Tryz.ntmps43
 go_wp2_with fail
 go_loopw [37] (fun jv w' => ∃ (j : Nat) (st' : FSt), jv = .int .i64 j ∧ j ≤ ws.length ∧ Aside0 (wordsD st' (ws.drop j) = wordsD st ws) ∧ Aside0 (st'.cls.length ≤ st.cls.length + j ∧ st'.opn.length ≤ st.opn.length + j) ∧ Aside0 (Rf w0 w g st' w')) (fun jv _ => ws.length - (intOf jv).toNat)
 case atStart => exact ⟨0, st, rfl, Nat.zero_le _, ⟨rfl⟩, ⟨by omega, by omega⟩, ⟨_, _, HV0.out⟩⟩
 case round =>
  obtain ⟨j, st', rfl, hj, hT, hB, hR⟩ := hrel
  by_cases hlt : j < ws.length
  ·obtain ⟨vc, vo, hV⟩ := hR.out
   have hx := words_row HROW.out hV.k9 j hlt
   have hzj := HZ.out ws[j] (List.getElem_mem hlt)
   have hdr := wordsD_drop ws st' j hlt
   rw [hT.out] at hdr
   have hb := hB.out
   have g1 := H1.out
   have g2 := H2.out
   have NW := Aside0.mk (number_walk ws[j] (by omega))
   obtain ⟨n, ok, hn⟩ : ∃ n ok, numR ws[j] = (n, ok) := ⟨_, _, rfl⟩
   rw [hn] at NW
   have HV := Aside0.mk hV
   clear hV
   cases ok with
   | false =>
    have hw : wordD st' ws[j] = (st', 31) := by unfold wordD; rw [hn, if_pos rfl]
    rw [hw] at hdr
    simp only at hdr
    rw [if_neg (show ¬ ((31 : Int) = 0) by decide)] at hdr
    have HD := Aside0.mk hdr
    clear hw hdr hn
    go_wp2_with fail
    refine (NW.out _).mono ?_
    rintro e w6 ⟨rfl, nd, rfl⟩
    go_wp2_with fail
    go_ret
    rw [HD.out]
    exact ⟨rfl, vc, vo, HV.out.on (pw_below_drewN (Below.refl _ _) nd)⟩
   | true =>
    by_cases h0 : n = 0
    ·subst h0
     have hw : wordD st' ws[j] = (⟨st'.headed, st'.count, st'.vars, st'.cls ++ [st'.opn], []⟩, 0) := by unfold wordD; rw [hn, if_neg (by decide), if_pos rfl]
     rw [hw] at hdr
     rw [if_pos rfl] at hdr
     have HD := Aside0.mk hdr
     clear hw hdr hn
     obtain ⟨Al, cl, el⟩ := Kd.R_slice HV.out.l
     subst el
     go_wp2_with fail
     refine (NW.out _).mono ?_
     rintro e w6 ⟨rfl, hq⟩
     have HV6 := Aside0.mk (show RfV w0 w g vc (.slice Al st'.opn.length cl) st' w6 by obtain ⟨nd, rfl⟩ := hq; exact HV.out.on (pw_below_drewN (Below.refl _ _) nd))
     clear hq
     have c3 : w6.cell? ⟨g, 3, none⟩ = some vc := (blk_cell HV6.out.blk 3).trans rfl
     have c4 : w6.cell? ⟨g, 4, none⟩ = some (.slice Al st'.opn.length cl) := (blk_cell HV6.out.blk 4).trans rfl
     have f3 := blk_frozen HV6.out.blk 3
     have f4 := blk_frozen HV6.out.blk 4
     have HA := Aside0.mk (Kd.R_apart' HV6.out.l (Kd.S_typed HV6.out.s) (by decide))
     have DR := Aside0.mk (HV6.out.on (Below.refl _ _).drew)
     have za3 : ∀ o : Obj, (w6.alloc o).cell? ⟨g, 3, none⟩ = some vc := fun o => (blk_cell (blk_alloc HV6.out.blk o) 3).trans rfl
     have hbd : (st'.cls.length + 1) * 24 ≤ 140737488355328 := by omega
     have HBD := Aside0.mk hbd
     clear hbd
     go_wp2_with fail
     go_region_law (first | (rw [show ∀ o : Obj, (w6.alloc o).drew = w6.drew.alloc o from fun _ => rfl]; refine Kd.S_append_step kL (w0 := w0) w0.heap.size ?hw (.tmp 57) (.tmp 62) 22 43 (.slice none 0 0) 24 ?ho Tryz.underlying22 info43 rfl (by decide) (by omega) vc st'.cls st'.opn [.slice Al st'.opn.length cl] (fun k_ => k_ ≠ g) (fun k_ => some k_ = (Value.slice Al st'.opn.length cl).ownBlock) ?hs ?hx ?aP (fun k_ hk_ => HA.out.1 k_ hk_.symm) ?aF ?aO ?aB ?aS ?aL ?_; (case hw => first | rfl | simp [Region.wanted]); (case ho => rfl); (case hs => first | rfl | simp [Act.eval, Act.put]); (case hx => first | rfl | simp [Act.eval, Act.put]); (case aP => exact ⟨_, rfl, Kd.R_tight rfl DR.out.l⟩); (case aF => exact (fun k hk e => by subst e; have := blk_lt DR.out.blk; omega)); (case aO => exact Kd.S_mono DR.out.s (fun k hk => ⟨hk.1, fun e => hk.2 e⟩)); (case aB => exact DR.out.below); (case aS => exact DR.out.below.size); (case aL => exact HBD.out); intro v1 w5 ho hb hg hat; obtain ⟨Ao, co, eo⟩ := Kd.R_slice (Kd.S_R ho); subst eo; have hbk := blk_grown DR.out.blk hg (Kd.R_ne (Kd.S_R DR.out.s) DR.out.blk (by decide)); have x3 : w5.cell? ⟨g, 3, none⟩ = some vc := (blk_cell hbk 3).trans rfl; have x4 : w5.cell? ⟨g, 4, none⟩ = some (.slice Al st'.opn.length cl) := (blk_cell hbk 4).trans rfl; have y3 := blk_frozen hbk 3; have y4 := blk_frozen hbk 4; have HR5 := Aside0.mk (RfV.closed DR.out ho hb hg); clear ho hb hg hat hbk))
     all_goals (go_wp2_with fail; go_roundw; (case rel => have HR6 := HR5.out; rw [show (st'.cls ++ [st'.opn]).length = st'.cls.length + 1 by simp] at HR6; exact ⟨j + 1, ⟨st'.headed, st'.count, st'.vars, st'.cls ++ [st'.opn], []⟩, by go_num, by omega, ⟨HD.out.symm⟩, ⟨by simp only [List.length_append, List.length_cons, List.length_nil]; omega, by simp only [List.length_nil]; omega⟩, ⟨_, _, HR6⟩⟩); (case measure => simp [intOf]; omega))
    ·have cn0 : ((n : Int) == 0) = false := beq_eq_false_iff_ne.2 h0
     have hlv : (numR ws[j]).1 = n := by rw [hn]
     have hok : (numR ws[j]).2 = true := by rw [hn]
     by_cases hf : n ≠ 0 ∧ -1048576 ≤ n ∧ n ≤ 1048576
     ·have HF1 := Aside0.mk (show lits_Formed.f n = some true by rw [formed_isR, decide_eq_true hf])
      have HF2 := Aside0.mk (var_isR n hf)
      have hva : (n.natAbs : Int) ≤ 1048576 := by omega
      by_cases hv : (n.natAbs : Int) ≤ st'.vars
      ·have hw : wordD st' ws[j] = (⟨st'.headed, st'.count, st'.vars, st'.cls, st'.opn ++ [n]⟩, 0) := by
        unfold wordD
        rw [hn]
        simp only
        rw [if_neg (by decide), if_neg h0, if_pos (by unfold litV; rw [decide_eq_true hf, decide_eq_true hv]; rfl)]
       rw [hw] at hdr
       rw [if_pos rfl] at hdr
       have HD := Aside0.mk hdr
       have dv : decide ((n.natAbs : Int) ≤ st'.vars) = true := decide_eq_true hv
       clear hw hdr hn hlv hok hf h0 hv
       go_wp2_with fail
       refine (NW.out _).mono ?_
       rintro e w6 ⟨rfl, hq⟩
       have HV6 := Aside0.mk (show RfV w0 w g vc vo st' w6 by obtain ⟨nd, rfl⟩ := hq; exact HV.out.on (pw_below_drewN (Below.refl _ _) nd))
       clear hq
       have HV7 := Aside0.mk (show ∀ m, RfV w0 w g vc vo st' (w6.drewN m) from fun m => HV6.out.on (pw_below_drewN (Below.refl _ _) m))
       have c2 : w6.cell? ⟨g, 2, none⟩ = some (.int .i64 st'.vars) := (blk_cell HV6.out.blk 2).trans rfl
       have c4 : w6.cell? ⟨g, 4, none⟩ = some vo := (blk_cell HV6.out.blk 4).trans rfl
       have f4 := blk_frozen HV6.out.blk 4
       have z4 : ∀ m, (w6.drewN m).cell? ⟨g, 4, none⟩ = some vo := fun m => (blk_cell (HV7.out m).blk 4).trans rfl
       have HBD := Aside0.mk (show (st'.opn.length + 1) * 8 ≤ 140737488355328 by omega)
       go_wp2_with fail
       go_quiet ((first | (go_at_call 64; exact formed_q n true HF1.out) | (go_at_call 56; exact var_q n _ HF2.out)))
       obtain ⟨w7, hw7⟩ : ∃ w7, w6.drewN nq = w7 := ⟨_, rfl⟩
       have HV8 := Aside0.mk (show RfV w0 w g vc vo st' w7 by rw [← hw7]; exact HV7.out nq)
       rw [hw7]
       clear hw7 z4 c4 f4 c2
       have c4 : w7.cell? ⟨g, 4, none⟩ = some vo := (blk_cell HV8.out.blk 4).trans rfl
       have f4 := blk_frozen HV8.out.blk 4
       go_wp2_with (first | (at_builtin; refine Kd.R_append (Kd.int .i64) (w0 := w0) w0.heap.size rfl (.tmp 87) (.tmp 89) 43 3 (.int .i64 0) 8 rfl Tryz.underlying43 info3 rfl (by decide) (by omega) vo st'.opn n [.int .i64 n] (fun k_ => k_ ≠ g) (fun _ => False) rfl (by simp [Act.eval, World.setCell, World.drewN]) ?aP (fun _ hk => hk.elim) ?aF ?aO ?aB ?aS ?aL ?_; (case aP => exact rfl); (case aF => exact (fun k hk e => by subst e; have := blk_lt HV8.out.blk; omega)); (case aO => exact HV8.out.l); (case aB => exact HV8.out.below); (case aS => exact HV8.out.below.size); (case aL => exact HBD.out); intro v1 w5 ho hb hg hat; obtain ⟨Ao, co, eo⟩ := Kd.R_slice ho; subst eo; have hbk := blk_grown HV8.out.blk hg (Kd.R_ne HV8.out.l HV8.out.blk (by decide)); have y4 := blk_frozen hbk 4; have x4 : w5.cell? ⟨g, 4, none⟩ = some vo := (blk_cell hbk 4).trans rfl; have HR5 := Aside0.mk (RfV.appended HV8.out ho hb hg hat); clear ho hb hg hat hbk))
       go_roundw
       case rel =>
        have HR6 := HR5.out
        rw [show (st'.opn ++ [n]).length = st'.opn.length + 1 by simp] at HR6
        exact ⟨j + 1, ⟨st'.headed, st'.count, st'.vars, st'.cls, st'.opn ++ [n]⟩, by go_num, by omega, ⟨HD.out.symm⟩, ⟨by simp only; omega, by simp only [List.length_append, List.length_cons, List.length_nil]; omega⟩, ⟨_, _, HR6⟩⟩
       case measure => simp [intOf]; omega
      ·have hw : wordD st' ws[j] = (st', 32) := by
        unfold wordD
        rw [hn]
        simp only
        rw [if_neg (by decide), if_neg h0, if_neg (by unfold litV; rw [decide_eq_false hv, Bool.and_false]; decide)]
       rw [hw] at hdr
       simp only at hdr
       rw [if_neg (show ¬ ((32 : Int) = 0) by decide)] at hdr
       have HD := Aside0.mk hdr
       have dv : decide ((n.natAbs : Int) ≤ st'.vars) = false := decide_eq_false hv
       clear hw hdr hn hlv hok hf h0 hv
       go_wp2_with fail
       refine (NW.out _).mono ?_
       rintro e w6 ⟨rfl, hq⟩
       have HV6 := Aside0.mk (show RfV w0 w g vc vo st' w6 by obtain ⟨nd, rfl⟩ := hq; exact HV.out.on (pw_below_drewN (Below.refl _ _) nd))
       clear hq
       have HV7 := Aside0.mk (show ∀ m, RfV w0 w g vc vo st' (w6.drewN m) from fun m => HV6.out.on (pw_below_drewN (Below.refl _ _) m))
       have c2 : w6.cell? ⟨g, 2, none⟩ = some (.int .i64 st'.vars) := (blk_cell HV6.out.blk 2).trans rfl
       go_wp2_with fail
       go_quiet ((first | (go_at_call 64; exact formed_q n true HF1.out) | (go_at_call 56; exact var_q n _ HF2.out)))
       go_wp2_with fail
       go_ret
       rw [HD.out]
       exact ⟨rfl, vc, vo, HV7.out _⟩
     ·have HF1 := Aside0.mk (show lits_Formed.f n = some false by rw [formed_isR, decide_eq_false hf])
      have hw : wordD st' ws[j] = (st', 32) := by
       unfold wordD
       rw [hn]
       simp only
       rw [if_neg (by decide), if_neg h0, if_neg (by unfold litV; rw [decide_eq_false hf, Bool.false_and]; decide)]
      rw [hw] at hdr
      simp only at hdr
      rw [if_neg (show ¬ ((32 : Int) = 0) by decide)] at hdr
      have HD := Aside0.mk hdr
      clear hw hdr hn hlv hok hf h0
      go_wp2_with fail
      refine (NW.out _).mono ?_
      rintro e w6 ⟨rfl, hq⟩
      have HV6 := Aside0.mk (show RfV w0 w g vc vo st' w6 by obtain ⟨nd, rfl⟩ := hq; exact HV.out.on (pw_below_drewN (Below.refl _ _) nd))
      clear hq
      have HV7 := Aside0.mk (show ∀ m, RfV w0 w g vc vo st' (w6.drewN m) from fun m => HV6.out.on (pw_below_drewN (Below.refl _ _) m))
      go_wp2_with fail
      go_quiet ((go_at_call 64; exact formed_q n false HF1.out))
      go_wp2_with fail
      go_ret
      rw [HD.out]
      exact ⟨rfl, vc, vo, HV7.out _⟩
  ·obtain rfl : j = ws.length := by omega
   have hT2 := hT.out
   rw [List.drop_length, wordsD] at hT2
   have HT2 := Aside0.mk hT2
   clear hT2
   go_wp2_with fail
   go_ret
   rw [← HT2.out]
   exact ⟨rfl, hR.out⟩
end Go.Proofs.YtlhajfepcggjaaaGreatDoor.R

set_option linter.unusedVariables false
set_option linter.unusedSimpArgs false
namespace Go.Proofs.YtlhajfepcggjaaaGreatDoor.R
open Go.RowKit Go.Lib Go.Proofs.YtlhajfepcggjaaaGreatDoorW.PrintWords Go.Proofs.YtlhajfepcggjaaaGreatDoorW.PrintLast Go.Proofs.YtlhajfepcggjaaaGreatDoorW.PrintMore

theorem rdOf_natr {α : Type} {z : α} {xs : List α} {n : Nat} (h : n < xs.length) : rdOf z xs (n : Int) = xs[n] := by
 unfold rdOf
 rw [Int.toNat_natCast, List.getD_eq_getElem?_getD, List.getElem?_eq_getElem h]
 rfl
/-- What a line says as a head. -/
def headN (v c : Int × Bool) : Int × Int × Bool := (v.1, c.1, v.2 && c.2 && decide (0 ≤ v.1) && decide (v.1 ≤ 1048576) && decide (0 ≤ c.1) && decide (c.1 < 2147483648))
def headR : List ByteArray → Int × Int × Bool
 | [a, b, v, c] => if a.toList = [112] ∧ b.toList = [99, 110, 102] then headN (numR v) (numR c) else (0, 0, false)
 | _ => (0, 0, false)
theorem head_is (ws : List ByteArray) (hz : ∀ x ∈ ws, x.size ≤ 4294967296) : dimacs_head.f 1 ws = some (headR ws) := by
 unfold dimacs_head.f
 by_cases h4 : ws.length = 4
 ·match ws, h4, hz with
  | [a, b, v, c], _, hz =>
   have hv := hz v (by simp)
   have hc := hz c (by simp)
   have e0 : rdOf ByteArray.empty [a, b, v, c] 0 = a := rfl
   have e1 : rdOf ByteArray.empty [a, b, v, c] 1 = b := rfl
   have e2 : rdOf ByteArray.empty [a, b, v, c] 2 = v := rfl
   have e3 : rdOf ByteArray.empty [a, b, v, c] 3 = c := rfl
   have l4 : (([a, b, v, c] : List ByteArray).length : Int) = 4 := rfl
   rw [l4, if_pos rfl, if_pos (by decide), e0, e1]
   simp only [headR]
   by_cases ha : a.toList = [112]
   ·rw [if_pos ha, if_pos (by decide)]
    by_cases hb : b.toList = [99, 110, 102]
    ·rw [if_pos ⟨ha, hb⟩, show (b.toList != ([99, 110, 102] : List UInt8)) = false by rw [hb]; rfl, dimacs_head.j0, if_neg (by decide), l4, if_pos (by decide), e2, e3]
     unfold dimacs_number.f
     rw [if_pos (by omega), if_pos (by omega)]
     simp only [Option.bind_some]
     rw [if_pos (by decide)]
     obtain ⟨v1, v2⟩ := numR v
     obtain ⟨c1, c2⟩ := numR c
     simp only [headN]
     cases v2 <;> cases c2 <;> simp
     split
     ·split
      ·split
       ·simp [*]
       ·simp [*]
      ·simp [*]
     ·simp [*]
    ·rw [if_neg (fun h => hb h.2), show (b.toList != ([99, 110, 102] : List UInt8)) = true from bne_iff_ne.2 hb, dimacs_head.j0, if_pos rfl]
   ·rw [if_neg ha, if_neg (fun h => ha h.1), dimacs_head.j0, if_pos rfl]
 ·rw [if_neg (by omega), dimacs_head.j0, if_pos rfl]
  have : headR ws = (0, 0, false) := by
   unfold headR
   split
   ·rename_i a b v c
    exact absurd rfl h4
   ·rfl
  rw [this]
def lineD (st : FSt) (ws : List ByteArray) : FSt × Int :=
 if st.headed then wordsD st ws else (⟨(headR ws).2.2, (headR ws).2.1, (headR ws).1, st.cls, st.opn⟩, if (headR ws).2.2 then 0 else 30)

set_option maxHeartbeats 8000000 in
set_option maxRecDepth 100000 in
theorem line_head (w0 : World) (g : Nat) (st : FSt) (w : World) (A c base : Nat) (ws : List ByteArray) (hR : Rf w0 w g st w) (hrow : w.ownsRow base 9 1 (.slice (some ⟨A, 0, none⟩) ws.length c) ws.length (ws.map Value.string)) (hz : ∀ x ∈ ws, x.size ≤ 4294967296)
  (hh : st.headed = false) :
  Calls Tryz.prog 43 #[.pointer (some ⟨g, 0, none⟩), .slice (some ⟨A, 0, none⟩) ws.length c] w fun e w' => e = .returned (.int .i64 (lineD st ws).2) ∧ Rf w0 w g (lineD st ws).1 w' := by
 obtain ⟨vc, vo, hV0⟩ := hR
 have b0 : w.cell? ⟨g, 0, none⟩ = some (.bool st.headed) := (blk_cell hV0.blk 0).trans rfl
 rw [hh] at b0
 have hreads := Kd.R_reads (Kd.R_of_own (h1 := fun _ => rfl) hrow (ok := fun _ => True) (fun _ _ => trivial))
 obtain ⟨A', c', he, hl, hC⟩ := hreads
 obtain ⟨rfl, rfl⟩ : some ⟨A, 0, none⟩ = A' ∧ c = c' := by
  simp only [Value.slice.injEq, true_and] at he
  exact he
 obtain ⟨h1, h2, h3, hH⟩ : ∃ a b d, headR ws = (a, b, d) := ⟨_, _, _, rfl⟩
 have HC := Aside0.mk (dimacs_head.calls 1 (some ⟨A, 0, none⟩) c ws h1 h2 h3 w hC hl (by rw [head_is ws hz, hH]))
 have HV0 := Aside0.mk hV0
 have hln : lineD st ws = (⟨h3, h2, h1, st.cls, st.opn⟩, if h3 then 0 else 30) := by unfold lineD; rw [hh, if_neg (by decide), hH]
 rw [hln]
 clear hV0 hrow hz hh hC hl hH hln he
 cases h3 with
 | true =>
  go_enter Tryz.func43, Tryz.ntmps43
  go_wp2_with fail
  refine HC.out.mono ?_
  rintro e w6 ⟨rfl, hq⟩
  have HV6 := Aside0.mk (show RfV w0 w g vc vo st w6 by obtain ⟨nd, rfl⟩ := hq.out; exact HV0.out.on (pw_below_drewN (Below.refl _ _) nd))
  clear hq
  have HV7 := Aside0.mk (HV6.out.head h1 h2 true)
  have c0 : w6.cell? ⟨g, 0, none⟩ = some (.bool st.headed) := (blk_cell HV6.out.blk 0).trans rfl
  have c1 : w6.cell? ⟨g, 1, none⟩ = some (.int .i64 st.count) := (blk_cell HV6.out.blk 1).trans rfl
  have c2 : w6.cell? ⟨g, 2, none⟩ = some (.int .i64 st.vars) := (blk_cell HV6.out.blk 2).trans rfl
  have f0 := blk_frozen HV6.out.blk 0
  have f1 := blk_frozen HV6.out.blk 1
  have f2 := blk_frozen HV6.out.blk 2
  go_wp2_with fail
  go_ret
  exact ⟨rfl, vc, vo, HV7.out⟩
 | false =>
  go_enter Tryz.func43, Tryz.ntmps43
  go_wp2_with fail
  refine HC.out.mono ?_
  rintro e w6 ⟨rfl, hq⟩
  have HV6 := Aside0.mk (show RfV w0 w g vc vo st w6 by obtain ⟨nd, rfl⟩ := hq.out; exact HV0.out.on (pw_below_drewN (Below.refl _ _) nd))
  clear hq
  have HV7 := Aside0.mk (HV6.out.head h1 h2 false)
  have c0 : w6.cell? ⟨g, 0, none⟩ = some (.bool st.headed) := (blk_cell HV6.out.blk 0).trans rfl
  have c1 : w6.cell? ⟨g, 1, none⟩ = some (.int .i64 st.count) := (blk_cell HV6.out.blk 1).trans rfl
  have c2 : w6.cell? ⟨g, 2, none⟩ = some (.int .i64 st.vars) := (blk_cell HV6.out.blk 2).trans rfl
  have f0 := blk_frozen HV6.out.blk 0
  have f1 := blk_frozen HV6.out.blk 1
  have f2 := blk_frozen HV6.out.blk 2
  go_wp2_with fail
  go_ret
  exact ⟨rfl, vc, vo, HV7.out⟩
/-- What is missing at the end. -/
def endD (st : FSt) : Int := if st.headed = false then 30 else if 0 < st.opn.length then 33 else if (st.cls.length : Int) ≠ st.count then 34 else 0
set_option maxHeartbeats 4000000 in
set_option maxRecDepth 100000 in
theorem end_walk (w0 ws : World) (g : Nat) (st : FSt) (w : World) (hR : Rf w0 ws g st w) :
  Calls Tryz.prog 45 #[.pointer (some ⟨g, 0, none⟩)] w fun e w' => e = .returned (.int .i64 (endD st)) ∧ ∃ q, w' = w.drewN q := by
 obtain ⟨vc, vo, hV⟩ := hR
 obtain ⟨Al, cl, el⟩ := Kd.R_slice hV.l
 obtain ⟨Ac, cc, ec⟩ := Kd.R_slice (Kd.S_R hV.s)
 subst el ec
 have c0 : w.cell? ⟨g, 0, none⟩ = some (.bool st.headed) := (blk_cell hV.blk 0).trans rfl
 have c1 : w.cell? ⟨g, 1, none⟩ = some (.int .i64 st.count) := (blk_cell hV.blk 1).trans rfl
 have c3 : w.cell? ⟨g, 3, none⟩ = some (.slice Ac st.cls.length cc) := by
  have := (blk_cell hV.blk 3).trans rfl
  simpa using this
 have c4 : w.cell? ⟨g, 4, none⟩ = some (.slice Al st.opn.length cl) := (blk_cell hV.blk 4).trans rfl
 unfold endD
 clear hV
 cases hh : st.headed with
 | false =>
  rw [hh] at c0
  rw [if_pos rfl]
  clear hh
  go_enter Tryz.func45, Tryz.ntmps45
  go_wp2_with fail
  go_ret
  exact ⟨rfl, 0, rfl⟩
 | true =>
  rw [hh] at c0
  rw [if_neg (by decide)]
  clear hh
  by_cases ho : 0 < st.opn.length
  ·rw [if_pos ho]
   have d1 : decide (0 < st.opn.length) = true := decide_eq_true ho
   clear ho
   go_enter Tryz.func45, Tryz.ntmps45
   go_wp2_with fail
   go_ret
   exact ⟨rfl, 0, rfl⟩
  ·rw [if_neg ho]
   have d1 : decide (0 < st.opn.length) = false := decide_eq_false ho
   have d0 : st.opn.length = 0 := by omega
   have D0 := Aside0.mk d0
   clear ho d0
   by_cases hc : (st.cls.length : Int) = st.count
   ·rw [if_neg (by omega)]
    have e1 : ((st.cls.length : Int) != st.count) = false := bne_eq_false_iff_eq.2 hc
    have e2 : ((st.cls.length : Int) == st.count) = true := beq_iff_eq.2 hc
    clear hc
    go_enter Tryz.func45, Tryz.ntmps45
    go_wp2_with fail
    go_quiet (fail)
    go_wp2_with fail
    go_ret
    exact ⟨rfl, _, rfl⟩
   ·rw [if_pos hc]
    have e1 : ((st.cls.length : Int) != st.count) = true := bne_iff_ne.2 hc
    have e2 : ((st.cls.length : Int) == st.count) = false := beq_eq_false_iff_ne.2 hc
    clear hc
    go_enter Tryz.func45, Tryz.ntmps45
    go_wp2_with fail
    go_quiet (fail)
    go_wp2_with fail
    go_ret
    exact ⟨rfl, _, rfl⟩
end Go.Proofs.YtlhajfepcggjaaaGreatDoor.R

set_option linter.unusedVariables false
set_option linter.unusedSimpArgs false
namespace Go.Proofs.YtlhajfepcggjaaaGreatDoor.R
open Go.RowKit Go.Lib Go.Proofs.YtlhajfepcggjaaaGreatDoorW.PrintWords Go.Proofs.YtlhajfepcggjaaaGreatDoorW.PrintLast Go.Proofs.YtlhajfepcggjaaaGreatDoorW.PrintMore

theorem mkB_list (l : List UInt8) : (mkB l).data.toList = l := by unfold mkB; simp
theorem K9.trans {a b c : World} (h : K9 a b) (h2 : K9 b c) : K9 a c := fun k cs hk => h2 k cs (h k cs hk)
theorem wordsB_length (s : ByteArray) : (wordsB s).length ≤ s.size + 1 := by
 have spans : ∀ (d pos : Nat) (st : Option Nat) (acc : List (Nat × Nat)), (spansB s d pos st acc).1.length ≤ acc.length + d := by
  intro d
  induction d with
  | zero => intro pos st acc; exact Nat.le_refl _
  | succ d ih =>
   intro pos st acc
   cases hb : blankR (by_ s pos) with
   | true =>
    rw [spansB_blank hb]
    refine Nat.le_trans (ih _ _ _) ?_
    cases st <;> simp <;> omega
   | false =>
    rw [spansB_word hb]
    exact Nat.le_trans (ih _ _ _) (by omega)
 unfold wordsB closeSpans
 have := spans s.size 0 none []
 rw [List.length_map]
 split
 ·rw [List.length_append]; simp at this ⊢; omega
 ·simp at this; omega
theorem wordsB_size (s : ByteArray) : ∀ w ∈ wordsB s, w.size ≤ s.size := by
 intro w hw
 unfold wordsB at hw
 obtain ⟨x, _, rfl⟩ := List.mem_map.1 hw
 simp
 omega
/-- Has the line nothing to say? -/
def idleB (l : List UInt8) : Bool := hasPrefix l [99] || ((wordsB (mkB l)).length == 0)
theorem idle_is (l : List UInt8) (hl : l.length ≤ 4294967296) : dimacs_idle.f (mkB l) = some (idleB l) := by
 unfold dimacs_idle.f strings_HasPrefix.f idleB
 simp only [Option.bind_some]
 rw [mkB_list]
 cases hasPrefix l [99] with
 | true => rw [if_pos rfl]; rfl
 | false =>
  rw [if_neg (by decide)]
  unfold dimacs_words.f
  rw [if_pos (by rw [mkB_size]; exact hl)]
  simp only [Option.bind_some, Bool.false_or]
  congr 1
  rw [Bool.eq_iff_iff, beq_iff_eq, beq_iff_eq]
  omega
/-- The lines, one behind the other. -/
def linesD : List (List UInt8) → Nat → FSt → FSt × Int × Nat
 | [], n, st => (st, endD st, if endD st = 0 then 0 else n + 1)
 | l :: r, n, st => if idleB l then linesD r (n + 1) st else if (lineD st (wordsB (mkB l))).2 = 0 then linesD r (n + 1) (lineD st (wordsB (mkB l))).1 else ((lineD st (wordsB (mkB l))).1, (lineD st (wordsB (mkB l))).2, n + 1)
def readD (s : ByteArray) : FSt × Int × Nat := linesD (linesA s.data.toList) 0 fst0
def massD : List (List UInt8) → Nat
 | [] => 0
 | l :: r => l.length + 1 + massD r
theorem massD_append (a b : List (List UInt8)) : massD (a ++ b) = massD a + massD b := by
 induction a with
 | nil => simp [massD]
 | cons l a ih => simp only [List.cons_append, massD, ih]; omega
theorem massD_take (L : List (List UInt8)) (i : Nat) (hi : i < L.length) : massD (L.take (i + 1)) = massD (L.take i) + L[i].length + 1 ∧ massD (L.take (i + 1)) ≤ massD L := by
 have h1 : L.take (i + 1) = L.take i ++ [L[i]] := List.take_succ_eq_append_getElem hi
 have h2 : massD L = massD (L.take (i + 1)) + massD (L.drop (i + 1)) := by rw [← massD_append, List.take_append_drop]
 refine ⟨?_, by omega⟩
 rw [h1, massD_append]
 simp [massD]
 omega
theorem massD_lines (n : Nat) : ∀ l : List UInt8, l.length ≤ n → massD (linesA l) ≤ 2 * l.length ∧ (linesA l).length ≤ l.length ∧ ∀ x ∈ linesA l, x.length ≤ l.length := by
 induction n with
 | zero =>
  intro l h
  have : l = [] := List.eq_nil_of_length_eq_zero (by omega)
  rw [this, linesA_nil]
  simp [massD]
 | succ n ih =>
  intro l h
  by_cases hl : l = []
  ·rw [hl, linesA_nil]
   simp [massD]
  ·have hc := cut_len l hl
   have hpos := List.length_pos_iff.2 hl
   rw [linesA_cons l hl]
   have h2 := ih (cut l [10]).2.1 (by omega)
   have hsum : (cut l [10]).1.length + (cut l [10]).2.1.length + (if (cut l [10]).2.2 then 1 else 0) ≤ l.length := by
    unfold cut
    split
    ·rename_i hi
     have hr := index_room l [10] hi
     simp only [List.length_take, List.length_drop, List.length_cons, List.length_nil, if_true] at hr ⊢
     omega
    ·simp
   cases hf : (cut l [10]).2.2 with
   | true =>
    rw [hf, if_pos rfl] at hsum
    refine ⟨by simp only [massD]; omega, by simp only [List.length_cons]; omega, fun x hx => ?_⟩
    rcases List.mem_cons.1 hx with rfl | hx
    ·omega
    ·have := h2.2.2 x hx; omega
   | false =>
    obtain ⟨e1, e2⟩ := cut_off l hf
    rw [e2, linesA_nil, e1]
    refine ⟨by simp only [massD]; omega, by simp only [List.length_cons, List.length_nil]; omega, fun x hx => ?_⟩
    rcases List.mem_cons.1 hx with rfl | hx
    ·omega
    ·cases hx
theorem lineD_length (st : FSt) (ws : List ByteArray) : (lineD st ws).1.cls.length ≤ st.cls.length + ws.length ∧ (lineD st ws).1.opn.length ≤ st.opn.length + ws.length := by
 unfold lineD
 split
 ·exact wordsD_length ws st
 ·simp
theorem lines_is (s : ByteArray) (hs : s.size ≤ 4294967280) : dimacs_lines.f s = some ((linesA s.data.toList).map mkB) := by
 have hsz : s.data.toList.length = s.size := by simp
 have hne := pieces_ne s.data.toList
 have hcount : (pieces s.data.toList).length ≤ s.size + 1 := by
  have h := massD_lines s.data.toList.length s.data.toList (Nat.le_refl _)
  have e := linesA_pieces s.data.toList
  unfold linesOf at e
  split at e
  ·have := congrArg List.length e
   rw [List.length_dropLast] at this
   omega
  ·have := congrArg List.length e
   omega
 have hpos := List.length_pos_iff.2 hne
 unfold dimacs_lines.f strings_Split.f
 rw [if_pos ⟨by omega, rfl⟩]
 simp only [Option.bind_some]
 obtain ⟨n, hn⟩ : ∃ n, (pieces s.data.toList).length = n + 1 := ⟨(pieces s.data.toList).length - 1, by omega⟩
 have hlm : ((pieces s.data.toList).map mkB).length = n + 1 := by rw [List.length_map, hn]
 have ew : wrap64 ((((pieces s.data.toList).map mkB).length : Int) - 1) = (n : Int) := by rw [hlm]; unfold wrap64; omega
 have er : rdOf ByteArray.empty ((pieces s.data.toList).map mkB) (n : Int) = mkB ((pieces s.data.toList)[n]'(by omega)) := by
  rw [rdOf_natr (by rw [hlm]; omega), List.getElem_map]
 rw [ew, if_pos (by omega), if_pos (by rw [hlm]; omega), er, if_pos (show (n : Int) ≤ _ by rw [hlm]; omega)]
 have hlast : (pieces s.data.toList).getLast? = some ((pieces s.data.toList)[n]'(by omega)) := by
  rw [List.getLast?_eq_getElem?, show (pieces s.data.toList).length - 1 = n by omega, List.getElem?_eq_getElem]
 rw [← linesA_pieces]
 unfold linesOf
 rw [hlast, ByteArray.toList_eq, mkB_list]
 by_cases he : (pieces s.data.toList)[n]'(by omega) = []
 ·rw [if_pos he, if_pos (by rw [he])]
  congr 1
  rw [Int.toNat_natCast, ← List.map_take, List.dropLast_eq_take, hn, Nat.add_sub_cancel]
 ·rw [if_neg he, if_neg (by intro h; exact he (Option.some.inj h))]

/-- What dimacs.Read comes to. -/
def dimacs_Read.f (s : ByteArray) : Option (Int × List (List Int) × Int × Int) :=
 if s.size ≤ 4294967280 then (if (readD s).2.1 = 0 then some ((readD s).1.vars, (readD s).1.cls, 0, 0) else some (0, [], (readD s).2.1, ((readD s).2.2 : Nat))) else none
theorem rf_new (w : World) : Rf w w w.heap.size fst0 (w.alloc (.cells #[.bool false, .int .i64 0, .int .i64 0, .slice none 0 0, .slice none 0 0] 74)) :=
 ⟨_, _, heap_alloc_new w _, Kd.S_nil _ _ _ _ _, Kd.R_nil _ _ _ _ _, (Below.refl _ w).alloc (Nat.le_refl _) _, Nat.le_refl _, K9.below (K9.refl w) ((Below.refl _ w).alloc (Nat.le_refl _) _)⟩
theorem Rf.base {w0 ws w : World} {g : Nat} {st : FSt} (h : Rf w0 ws g st w) : Rf w0 w g st w := by
 obtain ⟨vc, vo, h⟩ := h
 exact ⟨vc, vo, h.blk, h.s, h.l, h.below, h.le, K9.refl w⟩
theorem Rf.on {w0 ws w w' : World} {g : Nat} {st : FSt} (h : Rf w0 ws g st w) (hb : Below w.heap.size w w') : Rf w0 ws g st w' := by
 obtain ⟨vc, vo, h⟩ := h
 exact ⟨vc, vo, h.on hb⟩
theorem Rf.k9 {w0 ws w : World} {g : Nat} {st : FSt} (h : Rf w0 ws g st w) : K9 ws w := by
 obtain ⟨vc, vo, h⟩ := h
 exact h.k9
theorem line_walk (w0 : World) (g : Nat) (st : FSt) (w : World) (A c base : Nat) (ws : List ByteArray) (hR : Rf w0 w g st w) (hrow : w.ownsRow base 9 1 (.slice (some ⟨A, 0, none⟩) ws.length c) ws.length (ws.map Value.string)) (hz : ∀ x ∈ ws, x.size ≤ 4294967296)
  (h1 : st.cls.length + ws.length ≤ 1000000000000) (h2 : st.opn.length + ws.length ≤ 1000000000000) :
  Calls Tryz.prog 43 #[.pointer (some ⟨g, 0, none⟩), .slice (some ⟨A, 0, none⟩) ws.length c] w fun e w' => e = .returned (.int .i64 (lineD st ws).2) ∧ Rf w0 w g (lineD st ws).1 w' := by
 cases hh : st.headed with
 | false => exact line_head w0 g st w A c base ws hR hrow hz hh
 | true =>
  have := line_words w0 g st w A c base ws hR hrow hz hh h1 h2
  unfold lineD
  rw [hh, if_pos rfl]
  exact this

set_option maxHeartbeats 1600000 in
set_option maxRecDepth 100000 in
theorem dimacs_Read.calls (a0 : ByteArray) (r1 : Int) (r2 : List (List Int)) (r3 r4 : Int) (w : World) (hE : Env w) (h : dimacs_Read.f a0 = some (r1, r2, r3, r4)) :
  Calls Tryz.prog 28 #[.string a0] w fun e w' => ∃ v1_ : Value, e = .returned (.tuple #[.agg #[.int .i64 r1, v1_], .int .i64 r3, .int .i64 r4]) ∧ Kd.S (Kd.slice 3 (Kd.int .i64)) 43 w' w.heap.size (fun _ => True) v1_ r2 ∧ Below w.heap.size w w' := by
 unfold dimacs_Read.f at h
 by_cases hs : a0.size ≤ 4294967280
 ·rw [if_pos hs] at h
  have hli := lines_is a0 hs
  have hml := massD_lines a0.data.toList.length a0.data.toList (Nat.le_refl _)
  obtain ⟨LL, hLL⟩ : ∃ LL, linesA a0.data.toList = LL := ⟨_, rfl⟩
  have hsz : a0.data.toList.length = a0.size := by simp
  have hrd : linesD LL 0 fst0 = readD a0 := by rw [← hLL]; rfl
  rw [hLL] at hli hml
  obtain ⟨r, hr⟩ : ∃ r, readD a0 = r := ⟨_, rfl⟩
  rw [hr] at h hrd
  have hmass : massD LL ≤ 8589934560 := by omega
  have hlen : LL.length ≤ 4294967280 := by omega
  have HML := Aside0.mk (show ∀ x ∈ LL, x.length ≤ 4294967280 from fun x hx => by have := hml.2.2 x hx; omega)
  have HE := Aside0.mk hE
  have HH := Aside0.mk h
  have HRD := Aside0.mk hrd
  have HMA := Aside0.mk hmass
  -- the world behind the result's cells
  obtain ⟨w0, hw0⟩ : ∃ w0, w.alloc (.cells #[.int .i64 0, .slice none 0 0] 24) = w0 := ⟨_, rfl⟩
  have hs0 : w0.heap.size = w.heap.size + 1 := by rw [← hw0]; simp
  have hb0 : Below w.heap.size w w0 := by rw [← hw0]; exact (Below.refl _ w).alloc (Nat.le_refl _) _
  have hk0 : w0.heap[w.heap.size]? = some (.cells #[.int .i64 0, .slice none 0 0] 24 (0, 0)) := by rw [← hw0]; exact heap_alloc_new w _
  have HB0 := Aside0.mk hb0
  have HK0 := Aside0.mk hk0
  have HS0 := Aside0.mk hs0
  have HN := Aside0.mk (show Rf w0 w0 (w.heap.size + 1) fst0 (w0.alloc (.cells #[.bool false, .int .i64 0, .int .i64 0, .slice none 0 0, .slice none 0 0] 74)) by rw [← hs0]; exact rf_new w0)
  obtain ⟨w1, hw1⟩ : ∃ w1, w0.alloc (.cells #[.bool false, .int .i64 0, .int .i64 0, .slice none 0 0, .slice none 0 0] 74) = w1 := ⟨_, rfl⟩
  rw [hw1] at HN
  have HE1 := Aside0.mk (show Env w1 from (hE.below hb0).below (by rw [← hw1]; exact (Below.refl _ w0).alloc (Nat.le_refl _) _))
  have HLC := Aside0.mk (dimacs_lines.calls a0 (LL.map mkB) w1 HE1.out hli)
  clear hE h hrd hmass hml hli hLL hr hb0 hk0 hsz
  go_enter Tryz.func28, Tryz.ntmps28
  go_wp2_with fail
  refine HLC.out.mono ?_
  rintro e w2 ⟨v, rfl, hRL, hb2⟩
  obtain ⟨Av, cv, hv, hcl, hCL⟩ := Kd.R_reads hRL
  rw [List.length_map] at hv
  subst hv
  have hown : w2.ownsRow w1.heap.size 9 1 (.slice Av LL.length cv) LL.length ((LL.map mkB).map Value.string) := by
   have := Kd.own_of_R hRL
   simpa [encs] using this
  have HOWN := Aside0.mk hown
  have HR2 := Aside0.mk (HN.out.on hb2)
  have HB2 := Aside0.mk hb2
  clear hRL hb2 hcl hCL hown
  go_wp2_with fail
  go_loopw [17] (fun jv w' => ∃ (i : Nat) (st : FSt), jv = .int .i64 i ∧ i ≤ LL.length ∧ Aside0 (linesD (LL.drop i) i st = r) ∧ Aside0 (st.cls.length ≤ massD (LL.take i) ∧ st.opn.length ≤ massD (LL.take i)) ∧ Aside0 (∃ ws, Rf w0 ws (w.heap.size + 1) st w') ∧ Aside0 (K9 w2 w')) (fun jv _ => LL.length - (intOf jv).toNat)
  case atStart => exact ⟨0, fst0, rfl, Nat.zero_le _, HRD, ⟨by simp [fst0], by simp [fst0]⟩, ⟨_, HR2.out⟩, ⟨K9.refl _⟩⟩
  case round =>
   obtain ⟨i, st, rfl, hi, hF, hB, hR, hK⟩ := hrel
   by_cases hlt : i < LL.length
   ·obtain ⟨gL, rfl⟩ : ∃ gL, Av = some ⟨gL, 0, none⟩ := by
     rcases HOWN.out.2 with ⟨_, h0⟩ | ⟨g', cap', cur, h', _⟩
     ·omega
     ·simp only [Value.slice.injEq] at h'
      exact ⟨g', h'.1⟩
    have hx := words_row HOWN.out hK.out i (by rw [List.length_map]; exact hlt)
    rw [List.getElem_map] at hx
    have hl := HML.out LL[i] (List.getElem_mem hlt)
    have hf := hF.out
    rw [List.drop_eq_getElem_cons hlt, linesD] at hf
    have hmt := massD_take LL i hlt
    have hma := HMA.out
    have hb := hB.out
    obtain ⟨l, hl0⟩ : ∃ l, LL[i] = l := ⟨_, rfl⟩
    rw [hl0] at hx hl hf hmt
    have HID := Aside0.mk (idle_is l (by omega))
    have HF := Aside0.mk hf
    have HMT := Aside0.mk hmt
    clear hf hl0 hmt hma hb
    go_wp2_with fail
    ((with_reducible refine (dimacs_idle.calls (mkB l) _ _ HID.out).mono ?_))
    rintro e w3 ⟨rfl, hb3⟩
    obtain ⟨ws0, hR0⟩ := hR.out
    have HR3 := Aside0.mk (hR0.on hb3)
    have HK3 := Aside0.mk (hK.out.below hb3)
    clear hb3 hR0
    cases hid : idleB l with
    | true =>
     have hf := HF.out
     rw [hid, if_pos rfl] at hf
     have HF2 := Aside0.mk hf
     clear hf
     go_wp2_with fail
     go_roundw
     case rel => exact ⟨i + 1, st, by go_num, by omega, HF2, ⟨by have := hB.out; have := HMT.out; omega, by have := hB.out; have := HMT.out; omega⟩, ⟨_, HR3.out⟩, HK3⟩
     case measure => simp [intOf]; omega
    | false =>
     have hf := HF.out
     rw [hid, if_neg (by decide)] at hf
     obtain ⟨wz, hwz⟩ : ∃ wz, wordsB (mkB l) = wz := ⟨_, rfl⟩
     have hwl := wordsB_length (mkB l)
     have hws := wordsB_size (mkB l)
     have hne : wz ≠ [] := by
      intro e
      unfold idleB at hid
      rw [hwz, e, Bool.or_eq_false_iff] at hid
      exact absurd hid.2 (by decide)
     have hcalls := fun (W : World) => dimacs_words.calls (mkB l) wz W (by unfold dimacs_words.f; rw [if_pos (by rw [mkB_size]; omega), hwz])
     rw [mkB_size] at hwl hws
     rw [hwz] at hf hwl hws
     have HF2 := Aside0.mk hf
     have HWC := Aside0.mk hcalls
     have HWS := Aside0.mk hws
     have HNE := Aside0.mk hne
     have HWL := Aside0.mk hwl
     clear hf hcalls hws hne hwz hwl
     go_wp2_with fail
     ((with_reducible refine (HWC.out _).mono ?_))
     rintro e w4 ⟨v, rfl, hRW, hb4⟩
     obtain ⟨gW, cW, hvW, hoW⟩ : ∃ gW cW, v = .slice (some ⟨gW, 0, none⟩) wz.length cW ∧ w4.ownsRow w3.heap.size 9 1 (.slice (some ⟨gW, 0, none⟩) wz.length cW) wz.length (wz.map Value.string) := by
      have h0 := Kd.own_of_R hRW
      rcases h0.2 with ⟨_, h0'⟩ | ⟨g', cap', cur, rfl, _⟩
      ·exact absurd (List.eq_nil_of_length_eq_zero h0') HNE.out
      ·exact ⟨g', cap', rfl, h0⟩
     subst hvW
     have HR4 := Aside0.mk (HR3.out.on hb4).base
     have HK4 := Aside0.mk (HK3.out.below hb4)
     have HOW := Aside0.mk hoW
     clear hRW hb4 hoW
     go_wp2_with fail
     ((with_reducible refine (line_walk w0 (w.heap.size + 1) st w4 gW cW _ wz HR4.out HOW.out (fun x hx => by have := HWS.out x hx; omega) (by have := hB.out; have := HMT.out; have := HWL.out; have := HMA.out; omega) (by have := hB.out; have := HMT.out; have := HWL.out; have := HMA.out; omega)).mono ?_))
     rintro e w6 ⟨rfl, hR6⟩
     have HK6 := Aside0.mk (HK4.out.trans hR6.k9)
     have HR6 := Aside0.mk hR6
     clear hR6
     obtain ⟨st2, er, hld⟩ : ∃ st2 er, lineD st wz = (st2, er) := ⟨_, _, rfl⟩
     have hf := HF2.out
     have hll := lineD_length st wz
     rw [hld] at hf HR6 hll
     simp only at hf hll
     rw [hld]
     have HLL := Aside0.mk hll
     clear hld hll
     by_cases he : er = 0
     ·subst he
      rw [if_pos rfl] at hf
      have HF3 := Aside0.mk hf
      clear hf
      go_wp2_with fail
      go_roundw
      case rel => exact ⟨i + 1, st2, by go_num, by omega, HF3, ⟨by have := hB.out; have := HMT.out; have := HLL.out; have := HWL.out; omega, by have := hB.out; have := HMT.out; have := HLL.out; have := HWL.out; omega⟩, ⟨_, HR6.out⟩, HK6⟩
      case measure => simp [intOf]; omega
     ·rw [if_neg he] at hf
      have HF3 := Aside0.mk hf
      have ene : ((er : Int) != 0) = true := bne_iff_ne.2 he
      have ene2 : ((er : Int) == 0) = false := beq_eq_false_iff_ne.2 he
      have HEN := Aside0.mk he
      obtain ⟨vc, vo, hV⟩ := HR6.out
      have hB6 := hV.below
      have hk6 : w6.heap[w.heap.size]? = some (.cells #[.int .i64 0, .slice none 0 0] 24 (0, 0)) := (hB6.block _ (by have := HS0.out; omega)).trans HK0.out
      have x0 : w6.cell? ⟨w.heap.size, 0, none⟩ = some (.int .i64 0) := (blk_cell hk6 0).trans rfl
      have x1 : w6.cell? ⟨w.heap.size, 1, none⟩ = some (.slice none 0 0) := (blk_cell hk6 1).trans rfl
      have y0 := blk_frozen hk6 0
      have y1 := blk_frozen hk6 1
      have HK6' := Aside0.mk hk6
      have HB6 := Aside0.mk (HB0.out.trans (hB6.mono (by have := HS0.out; omega)))
      clear hf he hV hB6 hk6
      go_wp2_with fail
      refine bodyPost_ret (results_ctt rfl _ _ w.heap.size 24 #[.int .i64 0, .slice none 0 0] (0, 0) _ rfl (blk_put (cs := #[.int .i64 0, .slice none 0 0]) (blk_put (cs := #[.int .i64 0, .slice none 0 0]) HK6'.out 0 _ rfl) 1 _ rfl) Tryz.underlying24 rfl (by kernel_rfl)) rfl ?_
      have hfin := HH.out
      rw [← HF3.out] at hfin
      simp only at hfin
      rw [if_neg HEN.out] at hfin
      obtain ⟨rfl, rfl, rfl, rfl⟩ : (0 : Int) = r1 ∧ ([] : List (List Int)) = r2 ∧ er = r3 ∧ (((i + 1 : Nat) : Nat) : Int) = r4 := by
       have := Option.some.inj hfin
       exact ⟨congrArg (·.1) this, congrArg (·.2.1) this, congrArg (·.2.2.1) this, congrArg (·.2.2.2) this⟩
      exact ⟨_, rfl, Kd.S_nil _ _ _ _ _, (HB6.out.setCell (p := ⟨w.heap.size, 0, none⟩) (Nat.le_refl _) _).setCell (p := ⟨w.heap.size, 1, none⟩) (Nat.le_refl _) _⟩
   ·obtain rfl : i = LL.length := by omega
    have hf := hF.out
    rw [List.drop_length, linesD] at hf
    obtain ⟨ws0, hR0⟩ := hR.out
    have HEW := Aside0.mk (end_walk w0 ws0 (w.heap.size + 1) st wr hR0)
    have HF := Aside0.mk hf
    have HR0 := Aside0.mk hR0
    clear hf hR0
    go_wp2_with fail
    ((with_reducible refine HEW.out.mono ?_))
    rintro e w3 ⟨rfl, hq⟩
    have HR3 := Aside0.mk (show Rf w0 ws0 (w.heap.size + 1) st w3 by obtain ⟨q, rfl⟩ := hq; exact HR0.out.on (pw_below_drewN (Below.refl _ _) q))
    clear hq
    obtain ⟨er, her⟩ : ∃ er, endD st = er := ⟨_, rfl⟩
    have hf := HF.out
    rw [her] at hf
    rw [her]
    obtain ⟨vc, vo, hV⟩ := HR3.out
    have hB6 := hV.below
    have hk6 : w3.heap[w.heap.size]? = some (.cells #[.int .i64 0, .slice none 0 0] 24 (0, 0)) := (hB6.block _ (by have := HS0.out; omega)).trans HK0.out
    have x0 : w3.cell? ⟨w.heap.size, 0, none⟩ = some (.int .i64 0) := (blk_cell hk6 0).trans rfl
    have x1 : w3.cell? ⟨w.heap.size, 1, none⟩ = some (.slice none 0 0) := (blk_cell hk6 1).trans rfl
    have y0 := blk_frozen hk6 0
    have y1 := blk_frozen hk6 1
    have HK6' := Aside0.mk hk6
    have HB6 := Aside0.mk (HB0.out.trans (hB6.mono (by have := HS0.out; omega)))
    obtain ⟨Ac, cc, ec⟩ := Kd.R_slice (Kd.S_R hV.s)
    subst ec
    have c2 : w3.cell? ⟨w.heap.size + 1, 2, none⟩ = some (.int .i64 st.vars) := (blk_cell hV.blk 2).trans rfl
    have c3 : w3.cell? ⟨w.heap.size + 1, 3, none⟩ = some (.slice Ac st.cls.length cc) := (blk_cell hV.blk 3).trans rfl
    have HS := Aside0.mk (Kd.S_bound hV.s)
    by_cases he : er = 0
    ·subst he
     rw [if_pos rfl] at hf
     have HF3 := Aside0.mk hf
     clear hf hV hB6 hk6 her
     go_wp2_with fail
     refine bodyPost_ret (results_ctt rfl _ _ w.heap.size 24 #[.int .i64 st.vars, .slice Ac st.cls.length cc] (0, 0) _ rfl (blk_put (cs := #[.int .i64 st.vars, .slice none 0 0]) (blk_put (cs := #[.int .i64 0, .slice none 0 0]) HK6'.out 0 _ rfl) 1 _ rfl) Tryz.underlying24 rfl (by kernel_rfl)) rfl ?_
     have hfin := HH.out
     rw [← HF3.out] at hfin
     simp only at hfin
     rw [if_pos trivial] at hfin
     obtain ⟨rfl, rfl, rfl, rfl⟩ : st.vars = r1 ∧ st.cls = r2 ∧ (0 : Int) = r3 ∧ (0 : Int) = r4 := by
      have := Option.some.inj hfin
      exact ⟨congrArg (·.1) this, congrArg (·.2.1) this, congrArg (·.2.2.1) this, congrArg (·.2.2.2) this⟩
     refine ⟨_, rfl, ?_, (HB6.out.setCell (p := ⟨w.heap.size, 0, none⟩) (Nat.le_refl _) _).setCell (p := ⟨w.heap.size, 1, none⟩) (Nat.le_refl _) _⟩
     refine Kd.S_lower (base := w0.heap.size) ?_ (by have := HS0.out; omega)
     refine Kd.S_mono (Kd.S_far (p := ⟨w.heap.size, 1, none⟩) (Kd.S_far (p := ⟨w.heap.size, 0, none⟩) HS.out (fun k hk => by have := hk.2.1; have := HS0.out; show k ≠ w.heap.size; omega) _) (fun k hk => by have := hk.2.1; have := HS0.out; show k ≠ w.heap.size; omega) _) (fun _ _ => trivial)
    ·rw [if_neg he] at hf
     have HF3 := Aside0.mk hf
     have ene : ((er : Int) != 0) = true := bne_iff_ne.2 he
     have ene2 : ((er : Int) == 0) = false := beq_eq_false_iff_ne.2 he
     have HEN := Aside0.mk he
     clear hf he hV hB6 hk6 her
     go_wp2_with fail
     refine bodyPost_ret (results_ctt rfl _ _ w.heap.size 24 #[.int .i64 0, .slice none 0 0] (0, 0) _ rfl (blk_put (cs := #[.int .i64 0, .slice none 0 0]) (blk_put (cs := #[.int .i64 0, .slice none 0 0]) HK6'.out 0 _ rfl) 1 _ rfl) Tryz.underlying24 rfl (by kernel_rfl)) rfl ?_
     have hfin := HH.out
     rw [← HF3.out] at hfin
     simp only at hfin
     rw [if_neg HEN.out] at hfin
     obtain ⟨rfl, rfl, rfl, rfl⟩ : (0 : Int) = r1 ∧ ([] : List (List Int)) = r2 ∧ er = r3 ∧ (((LL.length + 1 : Nat) : Nat) : Int) = r4 := by
      have := Option.some.inj hfin
      exact ⟨congrArg (·.1) this, congrArg (·.2.1) this, congrArg (·.2.2.1) this, congrArg (·.2.2.2) this⟩
     exact ⟨_, rfl, Kd.S_nil _ _ _ _ _, (HB6.out.setCell (p := ⟨w.heap.size, 0, none⟩) (Nat.le_refl _) _).setCell (p := ⟨w.heap.size, 1, none⟩) (Nat.le_refl _) _⟩
 ·rw [if_neg hs] at h
  cases h
end Go.Proofs.YtlhajfepcggjaaaGreatDoor.R
