/- drat's (*reader).take: the walk. No conditions. -/
import Derived.Test.YtooojhlndlebdaaRRRDoorRRRRPureParse
import Derived.Deep.RegionLaw
import Derived.Lib.AtoiAllCases
import Derived.Test.YtooojhlndlebdaaRRRDoorRRRRRx3
set_option linter.unusedVariables false
set_option linter.unusedSimpArgs false
namespace Go.Proofs.YtooojhlndlebdaaRRRDoorRRRR.R
open Go.RowKit Go.Lib Go.Proofs.YtooojhlndlebdaaRRRDoorRRRRW.PrintWords Go.Proofs.YtooojhlndlebdaaRRRDoorRRRRW.PrintLast Go.Proofs.YtooojhlndlebdaaRRRDoorRRRRW.PrintMore

/-- Every row of strings that stood in w stands in w'. -/
def K9 (w w' : World) : Prop := ∀ (k : Nat) (cs : Array Value), w.heap[k]? = some (Obj.cells cs 9 (0, 0)) → w'.heap[k]? = some (Obj.cells cs 9 (0, 0))
theorem K9.refl (w : World) : K9 w w := fun _ _ h => h
theorem K9.below {a w w' : World} (h : K9 a w) (hb : Below w.heap.size w w') : K9 a w' := fun k cs hk => (hb.block k (blk_lt (h k cs hk))).trans (h k cs hk)
theorem K9.put {a w : World} (h : K9 a w) {g : Nat} {cs : Array Value} {t : Nat} (hg : w.heap[g]? = some (.cells cs t (0, 0))) (ht : 9 ≠ t) (i : Nat) (u : Value) : K9 a (w.setCell ⟨g, i, none⟩ u) := fun k c hk =>
  (Below.heap_setCell w ⟨g, i, none⟩ u k (blk_ne (h k c hk) hg ht)).trans (h k c hk)
theorem K9.grown {a w w' : World} (h : K9 a w) {row : Option Nat} (hg : w.grownBy w' row) {t : Nat} (hty : ∀ k, row = some k → ∃ cs, w.heap[k]? = some (.cells cs t (0, 0))) (ht : 9 ≠ t) : K9 a w' := fun k c hk =>
  (hg.block k (blk_lt (h k c hk)) (fun e => by
    obtain ⟨cs, hc⟩ := hty k e.symm
    exact blk_ne (h k c hk) hc ht rfl)).trans (h k c hk)
/-- The reader's block and what hangs on it. -/
structure RdV (w0 ws : World) (g : Nat) (vs : Value) (b d : Bool) (vl : Value) (steps : List S33) (lits : List Int) (w : World) : Prop where
  blk : w.heap[g]? = some (.cells #[vs, .bool b, .bool d, vl] 60 (0, 0))
  s : Kd.S k33 33 w w0.heap.size (fun k_ => k_ ≠ g ∧ some k_ ≠ vl.ownBlock) vs steps
  l : Kd.R (Kd.int .i64) 3 w w0.heap.size (fun k_ => k_ ≠ g) vl lits
  below : Below w0.heap.size w0 w
  le : w0.heap.size ≤ g
  k9 : K9 ws w
theorem RdV.on {w0 ws w w' : World} {g : Nat} {vs vl : Value} {b d : Bool} {steps : List S33} {lits : List Int} (h : RdV w0 ws g vs b d vl steps lits w) (hb : Below w.heap.size w w') : RdV w0 ws g vs b d vl steps lits w' :=
  ⟨(hb.block g (blk_lt h.blk)).trans h.blk, Kd.S_below h.s hb, Kd.R_below h.l hb, h.below.trans (hb.mono h.below.size), h.le, h.k9.below hb⟩
theorem RdV.setBegun {w0 ws w : World} {g : Nat} {vs vl : Value} {b d : Bool} {steps : List S33} {lits : List Int} (h : RdV w0 ws g vs b d vl steps lits w) (b' : Bool) : RdV w0 ws g vs b' d vl steps lits (w.setCell ⟨g, 1, none⟩ (.bool b')) :=
  ⟨blk_put h.blk 1 _ rfl, Kd.S_far h.s (fun k hk => hk.1) _, Kd.R_far h.l (fun k hk => hk) _, h.below.setCell (p := ⟨g, 1, none⟩) h.le _, h.le, h.k9.put h.blk (by decide) _ _⟩
theorem RdV.setDrop {w0 ws w : World} {g : Nat} {vs vl : Value} {b d : Bool} {steps : List S33} {lits : List Int} (h : RdV w0 ws g vs b d vl steps lits w) (d' : Bool) : RdV w0 ws g vs b d' vl steps lits (w.setCell ⟨g, 2, none⟩ (.bool d')) :=
  ⟨blk_put h.blk 2 _ rfl, Kd.S_far h.s (fun k hk => hk.1) _, Kd.R_far h.l (fun k hk => hk) _, h.below.setCell (p := ⟨g, 2, none⟩) h.le _, h.le, h.k9.put h.blk (by decide) _ _⟩
theorem RdV.setNil {w0 ws w : World} {g : Nat} {vs vl : Value} {b d : Bool} {steps : List S33} {lits : List Int} (h : RdV w0 ws g vs b d vl steps lits w) : RdV w0 ws g vs b d (.slice none 0 0) steps [] (w.setCell ⟨g, 3, none⟩ (.slice none 0 0)) :=
  ⟨blk_put h.blk 3 _ rfl, Kd.S_mono (Kd.S_far h.s (fun k hk => hk.1) _) (fun k hk => ⟨hk.1, by simp [Value.ownBlock]⟩), Kd.R_nil _ _ _ _ _, h.below.setCell (p := ⟨g, 3, none⟩) h.le _, h.le, h.k9.put h.blk (by decide) _ _⟩
/-- The reader is in the state st. -/
def Rd (w0 ws : World) (g : Nat) (st : St) (w : World) : Prop := ∃ vs vl, RdV w0 ws g vs st.begun st.drop vl st.steps st.lits w

/-- Literals appended. -/
theorem RdV.appended {w0 ws w w1 : World} {g : Nat} {vs vl v1 : Value} {b d : Bool} {steps : List S33} {lits : List Int} {n : Int} (h : RdV w0 ws g vs b d vl steps lits w)
    (ho : Kd.R (Kd.int .i64) 3 w1 w0.heap.size (fun k_ => k_ ≠ g) v1 (lits ++ [n])) (hb : Below w0.heap.size w0 w1) (hg : w.grownBy w1 vl.ownBlock) (hat : v1.ownBlock = vl.ownBlock ∨ ∃ b, v1.ownBlock = some b ∧ w.heap.size ≤ b) :
    RdV w0 ws g vs b d v1 steps (lits ++ [n]) (w1.setCell ⟨g, 3, none⟩ v1) := by
  have hbk := blk_grown h.blk hg (Kd.R_ne h.l h.blk (by decide))
  have hs := Kd.S_after (ok := fun k_ => k_ ≠ g) h.s hg hat
  exact ⟨blk_put hbk 3 _ rfl, Kd.S_far hs (fun k hk => hk.1) _, Kd.R_far ho (fun k hk => hk) _, hb.setCell (p := ⟨g, 3, none⟩) h.le _, h.le, (h.k9.grown hg (Kd.R_typed h.l) (by decide)).put hbk (by decide) _ _⟩

/-- A step appended, the literals' row having gone over to it. -/
theorem RdV.closed {w0 ws w w1 : World} {g : Nat} {vs vl v1 : Value} {b d : Bool} {steps ys : List S33} {lits : List Int} (h : RdV w0 ws g vs b d vl steps lits w)
    (ho : Kd.S k33 33 w1 w0.heap.size (fun k_ => k_ ≠ g) v1 ys) (hb : Below w0.heap.size w0 w1) (hg : w.grownBy w1 vs.ownBlock) :
    RdV w0 ws g v1 false false (.slice none 0 0) ys [] ((((w1.setCell ⟨g, 0, none⟩ v1).setCell ⟨g, 1, none⟩ (.bool false)).setCell ⟨g, 2, none⟩ (.bool false)).setCell ⟨g, 3, none⟩ (.slice none 0 0)) := by
  have hbk := blk_grown h.blk hg (Kd.R_ne (Kd.S_R h.s) h.blk (by decide))
  refine ⟨blk_put (blk_put (blk_put (blk_put hbk 0 _ rfl) 1 _ rfl) 2 _ rfl) 3 _ rfl, ?_, Kd.R_nil _ _ _ _ _, ((((hb.setCell (p := ⟨g, 0, none⟩) h.le _).setCell (p := ⟨g, 1, none⟩) h.le _).setCell (p := ⟨g, 2, none⟩) h.le _).setCell (p := ⟨g, 3, none⟩) h.le _), h.le, ((((h.k9.grown hg (Kd.S_typed h.s) (by decide)).put hbk (by decide) _ _).put (blk_put hbk 0 _ rfl) (by decide) _ _).put (blk_put (blk_put hbk 0 _ rfl) 1 _ rfl) (by decide) _ _).put (blk_put (blk_put (blk_put hbk 0 _ rfl) 1 _ rfl) 2 _ rfl) (by decide) _ _⟩
  exact Kd.S_mono (Kd.S_far (Kd.S_far (Kd.S_far (Kd.S_far ho (fun k hk => hk) _) (fun k hk => hk) _) (fun k hk => hk) _) (fun k hk => hk) _) (fun k hk => ⟨hk, by simp [Value.ownBlock]⟩)
theorem formed_isR (x : Int) : lits_Formed.f x = some (litOk x) := by
  unfold lits_Formed.f litOk
  by_cases h : x = 0
  · rw [if_pos h]; simp [h]
  · rw [if_neg h]
    by_cases h1 : x ≥ -1048576
    · rw [if_pos h1]; congr 1; rw [decide_eq_decide]; omega
    · rw [if_neg h1]; congr 1; symm; rw [decide_eq_false_iff_not]; omega
set_option maxHeartbeats 8000000 in
set_option maxRecDepth 100000 in
theorem take_walk (w0 ws : World) (g : Nat) (vs vl : Value) (st : St) (wd : ByteArray) (w : World) (hR : RdV w0 ws g vs st.begun st.drop vl st.steps st.lits w) (hE : Env w) (hw : wd.size ≤ 4294967296) (h1 : st.steps.length ≤ 2000000000000) (h2 : st.lits.length ≤ 2000000000000) :
    Calls Tryd.prog 37 #[.pointer (some ⟨g, 0, none⟩), .string wd] w fun e w' => (takeF st wd = none ∧ e = .returned (.bool false) ∧ Rd w0 ws g st w') ∨ (∃ st', takeF st wd = some st' ∧ e = .returned (.bool true) ∧ Rd w0 ws g st' w') := by
  have HR := Aside0.mk hR
  have HE := Aside0.mk hE
  have b0 := blk_cell hR.blk 0
  have b1 := blk_cell hR.blk 1
  have b2 := blk_cell hR.blk 2
  have b3 := blk_cell hR.blk 3
  have f0 := blk_frozen hR.blk 0
  have f1 := blk_frozen hR.blk 1
  have f2 := blk_frozen hR.blk 2
  have f3 := blk_frozen hR.blk 3
  replace b0 : w.cell? ⟨g, 0, none⟩ = some vs := b0.trans rfl
  replace b1 : w.cell? ⟨g, 1, none⟩ = some (.bool st.begun) := b1.trans rfl
  replace b2 : w.cell? ⟨g, 2, none⟩ = some (.bool st.drop) := b2.trans rfl
  replace b3 : w.cell? ⟨g, 3, none⟩ = some vl := b3.trans rfl
  clear hR hE
  by_cases hd : wd.toList = [100] ∧ st.begun = false
  · have ht : takeF st wd = some ⟨st.steps, true, true, st.lits⟩ := by unfold takeF; rw [if_pos hd]
    have c1 : (wd.toList == ([100] : List UInt8)) = true := beq_iff_eq.mpr hd.1
    rw [hd.2] at b1
    clear hd
    go_enter Tryd.func37, Tryd.ntmps37
    go_wp2
    go_ret
    exact Or.inr ⟨_, ht, rfl, vs, vl, (HR.out.setBegun true).setDrop true⟩
  · have h100 : (wd.toList == ([100] : List UInt8)) = true → st.begun = true := fun h => by
      cases hb : st.begun with
      | true => rfl
      | false => exact absurd ⟨beq_iff_eq.mp h, hb⟩ hd
    by_cases h48 : wd.toList = [48]
    · have ht : takeF st wd = some ⟨st.steps ++ [⟨st.drop, st.lits⟩], false, false, []⟩ := by unfold takeF; rw [if_neg hd, if_pos h48]
      have c1 : (wd.toList == ([100] : List UInt8)) = false := by rw [h48]; rfl
      have c48 : (wd.toList == ([48] : List UInt8)) = true := beq_iff_eq.mpr h48
      clear h100 hd h48
      obtain ⟨Al, cl, el⟩ := Kd.R_slice HR.out.l
      subst el
      have hap := Kd.R_apart' HR.out.l (Kd.S_typed HR.out.s) (by decide)
      have HA := Aside0.mk hap
      clear hap
      have DR := Aside0.mk (HR.out.on (Below.refl _ _).drew)
      have za0 : ∀ o : Obj, (w.alloc o).cell? ⟨g, 0, none⟩ = some vs := fun o => (blk_cell (blk_alloc HR.out.blk o) 0).trans rfl
      go_enter Tryd.func37, Tryd.ntmps37
      go_wp2_with fail
      go_region_law (first | (rw [show ∀ o : Obj, (w.alloc o).drew = w.drew.alloc o from fun _ => rfl]; refine Kd.S_append_step k33 (w0 := w0) w0.heap.size ?hw (.tmp 29) (.tmp 34) 22 33 (.agg #[.bool false, .slice none 0 0]) 32 ?ho Tryd.underlying22 info33 rfl (by decide) (by omega) vs st.steps (⟨st.drop, st.lits⟩ : S33) [.bool st.drop, .slice Al st.lits.length cl] (fun k_ => k_ ≠ g) (fun k_ => some k_ = (Value.slice Al st.lits.length cl).ownBlock) ?hs ?hx ?aP (fun k_ hk_ => HA.out.1 k_ hk_.symm) ?aF ?aO ?aB ?aS ?aL ?_; (case hw => first | rfl | simp [Region.wanted]); (case ho => rfl); (case hs => first | rfl | simp [Act.eval, Act.put]); (case hx => first | rfl | simp [Act.eval, Act.put]); (case aP => exact k33_mkM _ _ _ (⟨st.drop, st.lits⟩ : S33) (Kd.R_tight rfl DR.out.l)); (case aF => exact (fun k hk e => by subst e; have := blk_lt DR.out.blk; omega)); (case aO => exact Kd.S_mono DR.out.s (fun k hk => ⟨hk.1, fun e => hk.2 e⟩)); (case aB => exact DR.out.below); (case aS => exact DR.out.below.size); (case aL => omega); intro v1 w5 ho hb hg hat; obtain ⟨Ao, co, eo⟩ := Kd.R_slice (Kd.S_R ho); subst eo; have hbk := blk_grown DR.out.blk hg (Kd.R_ne (Kd.S_R DR.out.s) DR.out.blk (by decide)); have x0 : w5.cell? ⟨g, 0, none⟩ = some vs := (blk_cell hbk 0).trans rfl; have x1 : w5.cell? ⟨g, 1, none⟩ = some (.bool st.begun) := (blk_cell hbk 1).trans rfl; have x2 : w5.cell? ⟨g, 2, none⟩ = some (.bool st.drop) := (blk_cell hbk 2).trans rfl; have x3 : w5.cell? ⟨g, 3, none⟩ = some (.slice Al st.lits.length cl) := (blk_cell hbk 3).trans rfl; have y0 := blk_frozen hbk 0; have y1 := blk_frozen hbk 1; have y2 := blk_frozen hbk 2; have y3 := blk_frozen hbk 3; have HR5 := Aside0.mk (RdV.closed DR.out ho hb hg); clear ho hb hg hat hbk))
      all_goals (go_wp2_with fail; go_ret; have HR6 := HR5.out; rw [show (st.steps ++ [(⟨st.drop, st.lits⟩ : S33)]).length = st.steps.length + 1 by simp] at HR6; exact Or.inr ⟨_, ht, rfl, _, _, HR6⟩)
    · have c48 : (wd.toList == ([48] : List UInt8)) = false := beq_eq_false_iff_ne.mpr h48
      by_cases hh : wd.toList = [100]
      · have c1 : (wd.toList == ([100] : List UInt8)) = true := beq_iff_eq.mpr hh
        rw [h100 c1] at b1
        clear hh
        go_enter Tryd.func37, Tryd.ntmps37
        go_wp2_with fail
        refine (atoi_any wd (by omega) _ (HE.out.below (by repeat (first | exact Below.refl _ _ | apply Below.drew)))).mono ?_
        rintro e w1 ⟨⟨n, ha, rfl⟩ | ⟨hno, v, N, rfl⟩, hb⟩
        · have HR1 := Aside0.mk (HR.out.on hb)
          have HE1 := Aside0.mk (HE.out.below hb)
          clear hb
          go_wp2_with fail
          have hbd := atoiAll_bounds ha
          refine (strconv_Itoa_18.calls n _ _ HE1.out (by unfold strconv_Itoa_18.f; exact if_pos hbd)).mono ?_
          rintro e w2 ⟨rfl, hb2⟩
          have HR2 := Aside0.mk (HR1.out.on hb2)
          clear hb2
          by_cases heq : Lib.itoa n = wd.data.toList
          · have e1 : ((⟨(Lib.itoa n).toArray⟩ : ByteArray).toList == wd.toList) = true := beq_iff_eq.mpr (by rw [ByteArray.toList_eq, ByteArray.toList_eq]; exact heq)
            have e2 : ((⟨(Lib.itoa n).toArray⟩ : ByteArray).toList != wd.toList) = false := by rw [bne, e1]; rfl
            have hlit := litN_of ha heq
            go_wp2_with fail
            refine (lits_Formed.calls n (litOk n) _ (formed_isR n)).mono ?_
            rintro e w3 ⟨rfl, ⟨nd, rfl⟩⟩
            have HR3 := Aside0.mk (HR2.out.on (pw_below_drewN (Below.refl _ _) nd))
            cases hok : litOk n with
            | false =>
              have ht : takeF st wd = none := by
                unfold takeF
                rw [if_neg hd, if_neg h48, hlit, hok]
                rfl
              go_wp2_with fail
              go_ret
              exact Or.inl ⟨ht, rfl, vs, vl, HR3.out⟩
            | true =>
              have ht : takeF st wd = some ⟨st.steps, true, st.drop, st.lits ++ [n]⟩ := by
                unfold takeF
                rw [if_neg hd, if_neg h48, hlit, hok]
                rfl
              have z1 : (w2.drewN nd).cell? ⟨g, 1, none⟩ = some (.bool st.begun) := (blk_cell HR3.out.blk 1).trans rfl
              have y1 := blk_frozen HR3.out.blk 1
              have z3 : (w2.drewN nd).cell? ⟨g, 3, none⟩ = some vl := (blk_cell HR3.out.blk 3).trans rfl
              have HR4 := Aside0.mk (HR3.out.setBegun true)
              go_wp2_with (first | (at_builtin; refine Kd.R_append (Kd.int .i64) (w0 := w0) w0.heap.size rfl (.tmp 71) (.tmp 73) 31 3 (.int .i64 0) 8 rfl Tryd.underlying31 info3 rfl (by decide) (by omega) vl st.lits n [.int .i64 n] (fun k_ => k_ ≠ g) (fun _ => False) rfl (by simp [Act.eval, World.setCell, World.drewN]) ?aP (fun _ hk => hk.elim) ?aF ?aO ?aB ?aS ?aL ?_; (case aP => exact rfl); (case aF => exact (fun k hk e => by subst e; have := blk_lt HR4.out.blk; omega)); (case aO => exact HR4.out.l); (case aB => exact HR4.out.below); (case aS => exact HR4.out.below.size); (case aL => omega); intro v1 w5 ho hb hg hat; obtain ⟨Ao, co, eo⟩ := Kd.R_slice ho; subst eo; have hbk := blk_grown HR4.out.blk hg (Kd.R_ne HR4.out.l HR4.out.blk (by decide)); have y3 := blk_frozen hbk 3; have x3 : w5.cell? ⟨g, 3, none⟩ = some vl := (blk_cell hbk 3).trans rfl; have HR5 := Aside0.mk (RdV.appended HR4.out ho hb hg hat); clear ho hb hg hat hbk))
              go_ret
              have HR6 := HR5.out
              rw [show (st.lits ++ [n]).length = st.lits.length + 1 by simp] at HR6
              exact Or.inr ⟨_, ht, rfl, vs, _, HR6⟩
          · have q1 : ¬ (Lib.itoa n = wd.toList) := by rw [ByteArray.toList_eq]; exact heq
            have q2 : (Lib.itoa n == wd.toList) = false := beq_eq_false_iff_ne.mpr q1
            have e1 : ((⟨(Lib.itoa n).toArray⟩ : ByteArray).toList == wd.toList) = false := beq_eq_false_iff_ne.mpr (by rw [ByteArray.toList_eq, ByteArray.toList_eq]; exact heq)
            have e2 : ((⟨(Lib.itoa n).toArray⟩ : ByteArray).toList != wd.toList) = true := by rw [bne, e1]; rfl
            have ht : takeF st wd = none := by
              unfold takeF
              rw [if_neg hd, if_neg h48]
              cases hl : litN wd.data.toList with
              | none => rfl
              | some m =>
                obtain ⟨h3, h4, _⟩ := litN_some hl
                rw [ha] at h3
                cases h3
                exact absurd h4 heq
            go_wp2_with fail
            go_ret
            exact Or.inl ⟨ht, rfl, vs, vl, HR2.out⟩
        · have HR1 := Aside0.mk (HR.out.on hb)
          clear hb
          have ht : takeF st wd = none := by
            unfold takeF
            rw [if_neg hd, if_neg h48]
            cases hl : litN wd.data.toList with
            | none => rfl
            | some n => exact absurd (litN_some hl).1 (hno n)
          go_wp2_with fail
          go_ret
          exact Or.inl ⟨ht, rfl, vs, vl, HR1.out⟩
      · have c1 : (wd.toList == ([100] : List UInt8)) = false := beq_eq_false_iff_ne.mpr hh
        clear hh
        go_enter Tryd.func37, Tryd.ntmps37
        go_wp2_with fail
        refine (atoi_any wd (by omega) _ (HE.out.below (by repeat (first | exact Below.refl _ _ | apply Below.drew)))).mono ?_
        rintro e w1 ⟨⟨n, ha, rfl⟩ | ⟨hno, v, N, rfl⟩, hb⟩
        · have HR1 := Aside0.mk (HR.out.on hb)
          have HE1 := Aside0.mk (HE.out.below hb)
          clear hb
          go_wp2_with fail
          have hbd := atoiAll_bounds ha
          refine (strconv_Itoa_18.calls n _ _ HE1.out (by unfold strconv_Itoa_18.f; exact if_pos hbd)).mono ?_
          rintro e w2 ⟨rfl, hb2⟩
          have HR2 := Aside0.mk (HR1.out.on hb2)
          clear hb2
          by_cases heq : Lib.itoa n = wd.data.toList
          · have e1 : ((⟨(Lib.itoa n).toArray⟩ : ByteArray).toList == wd.toList) = true := beq_iff_eq.mpr (by rw [ByteArray.toList_eq, ByteArray.toList_eq]; exact heq)
            have e2 : ((⟨(Lib.itoa n).toArray⟩ : ByteArray).toList != wd.toList) = false := by rw [bne, e1]; rfl
            have hlit := litN_of ha heq
            go_wp2_with fail
            refine (lits_Formed.calls n (litOk n) _ (formed_isR n)).mono ?_
            rintro e w3 ⟨rfl, ⟨nd, rfl⟩⟩
            have HR3 := Aside0.mk (HR2.out.on (pw_below_drewN (Below.refl _ _) nd))
            cases hok : litOk n with
            | false =>
              have ht : takeF st wd = none := by
                unfold takeF
                rw [if_neg hd, if_neg h48, hlit, hok]
                rfl
              go_wp2_with fail
              go_ret
              exact Or.inl ⟨ht, rfl, vs, vl, HR3.out⟩
            | true =>
              have ht : takeF st wd = some ⟨st.steps, true, st.drop, st.lits ++ [n]⟩ := by
                unfold takeF
                rw [if_neg hd, if_neg h48, hlit, hok]
                rfl
              have z1 : (w2.drewN nd).cell? ⟨g, 1, none⟩ = some (.bool st.begun) := (blk_cell HR3.out.blk 1).trans rfl
              have y1 := blk_frozen HR3.out.blk 1
              have z3 : (w2.drewN nd).cell? ⟨g, 3, none⟩ = some vl := (blk_cell HR3.out.blk 3).trans rfl
              have HR4 := Aside0.mk (HR3.out.setBegun true)
              go_wp2_with (first | (at_builtin; refine Kd.R_append (Kd.int .i64) (w0 := w0) w0.heap.size rfl (.tmp 71) (.tmp 73) 31 3 (.int .i64 0) 8 rfl Tryd.underlying31 info3 rfl (by decide) (by omega) vl st.lits n [.int .i64 n] (fun k_ => k_ ≠ g) (fun _ => False) rfl (by simp [Act.eval, World.setCell, World.drewN]) ?aP (fun _ hk => hk.elim) ?aF ?aO ?aB ?aS ?aL ?_; (case aP => exact rfl); (case aF => exact (fun k hk e => by subst e; have := blk_lt HR4.out.blk; omega)); (case aO => exact HR4.out.l); (case aB => exact HR4.out.below); (case aS => exact HR4.out.below.size); (case aL => omega); intro v1 w5 ho hb hg hat; obtain ⟨Ao, co, eo⟩ := Kd.R_slice ho; subst eo; have hbk := blk_grown HR4.out.blk hg (Kd.R_ne HR4.out.l HR4.out.blk (by decide)); have y3 := blk_frozen hbk 3; have x3 : w5.cell? ⟨g, 3, none⟩ = some vl := (blk_cell hbk 3).trans rfl; have HR5 := Aside0.mk (RdV.appended HR4.out ho hb hg hat); clear ho hb hg hat hbk))
              go_ret
              have HR6 := HR5.out
              rw [show (st.lits ++ [n]).length = st.lits.length + 1 by simp] at HR6
              exact Or.inr ⟨_, ht, rfl, vs, _, HR6⟩
          · have q1 : ¬ (Lib.itoa n = wd.toList) := by rw [ByteArray.toList_eq]; exact heq
            have q2 : (Lib.itoa n == wd.toList) = false := beq_eq_false_iff_ne.mpr q1
            have e1 : ((⟨(Lib.itoa n).toArray⟩ : ByteArray).toList == wd.toList) = false := beq_eq_false_iff_ne.mpr (by rw [ByteArray.toList_eq, ByteArray.toList_eq]; exact heq)
            have e2 : ((⟨(Lib.itoa n).toArray⟩ : ByteArray).toList != wd.toList) = true := by rw [bne, e1]; rfl
            have ht : takeF st wd = none := by
              unfold takeF
              rw [if_neg hd, if_neg h48]
              cases hl : litN wd.data.toList with
              | none => rfl
              | some m =>
                obtain ⟨h3, h4, _⟩ := litN_some hl
                rw [ha] at h3
                cases h3
                exact absurd h4 heq
            go_wp2_with fail
            go_ret
            exact Or.inl ⟨ht, rfl, vs, vl, HR2.out⟩
        · have HR1 := Aside0.mk (HR.out.on hb)
          clear hb
          have ht : takeF st wd = none := by
            unfold takeF
            rw [if_neg hd, if_neg h48]
            cases hl : litN wd.data.toList with
            | none => rfl
            | some n => exact absurd (litN_some hl).1 (hno n)
          go_wp2_with fail
          go_ret
          exact Or.inl ⟨ht, rfl, vs, vl, HR1.out⟩
end Go.Proofs.YtooojhlndlebdaaRRRDoorRRRR.R
