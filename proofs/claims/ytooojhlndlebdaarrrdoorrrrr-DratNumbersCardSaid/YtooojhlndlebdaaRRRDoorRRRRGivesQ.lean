/- depotlaw09.gives over drat.Steps' iterator. No conditions. -/
import Derived.Test.YtooojhlndlebdaaRRRDoorRRRRStepsQ
import Derived.Test.YtooojhlndlebdaaRRRDoorRRRRSameR
import Derived.Test.YtooojhlndlebdaaRRRDoorRRRRQuietR
set_option linter.unusedVariables false
set_option linter.unusedSimpArgs false
namespace Go.Proofs.YtooojhlndlebdaaRRRDoorRRRR.R
open Go.RowKit Go.Lib Go.Proofs.YtooojhlndlebdaaRRRDoorRRRRW.PrintWords Go.Proofs.YtooojhlndlebdaaRRRDoorRRRRW.PrintLast Go.Proofs.YtooojhlndlebdaaRRRDoorRRRRW.PrintMore
open Go.Proofs.YtooojhlndlebdaaRRRDoorRRRR.Q (KeepC KC RW SeqR postR wpIn_rangeR)
attribute [local go_sem] Oper.semAt_some

theorem wide_fn (k : FuncId) : Fence.wide.fn k = True := rfl
attribute [local go_sem] wide_fn
theorem heap33 : Kd.Heap k33 := Kd.heap_iso _ (Kd.heap_pair Kd.heap_bool (Kd.heap_slice 3 (Kd.heap_int .i64)))
theorem C33_below {w W : World} {A : Option Addr} {n : Nat} {l : List S33} (h : Kd.C k33 w A n l) (hb : Below w.heap.size w W) : Kd.C k33 W A n l := heap33.C (fun k hk => hb.block k hk) h
/-- A box lies. -/
def Bx (W : World) (g t : Nat) (v : Value) : Prop := W.heap[g]? = some (.cells #[v] t (0, 0))
theorem Bx.keep {N g t : Nat} {v : Value} {A B : World} (h : Bx A g t v) (k : KeepC N A B) : Bx B g t v := k.same g _ h (.inr rfl)
theorem Bx.cell {g t : Nat} {v : Value} {W : World} (h : Bx W g t v) : W.cell? ⟨g, 0, none⟩ = some v := (blk_cell h 0).trans rfl
theorem below_keep {M N : Nat} {w A B : World} (hM : M ≤ w.heap.size) (hMN : M ≤ N) (h : Below M w A) (k : KeepC N A B) : Below M w B :=
  ⟨k.os.trans h.os, k.tape.trans h.tape, k.output.trans h.output, Nat.le_trans h.size k.size, fun i hi => by
    have e := h.block i hi
    have hlt : i < w.heap.size := by omega
    rw [← e]
    have e2 : A.heap[i]? = some w.heap[i] := by rw [e]; exact Array.getElem?_eq_getElem hlt
    rw [e2]
    exact k.same i _ e2 (.inl (by omega))⟩
theorem RI_keep {N M : Nat} {A B : World} {v : Value} {l : List Int} (h : (Kd.int .i64).R 3 A N (fun _ => True) v l) (k : KeepC M A B) : (Kd.int .i64).R 3 B N (fun _ => True) v l :=
  Kd.R_mono (Kd.R_step (Kd.R_bound h) (fun i hi hlt => by
    obtain ⟨_, hb, _, q, _, cs, hcs⟩ := hi
    exact (k.same i _ hcs (.inr rfl)).trans hcs.symm)) (fun _ _ => trivial)
theorem eqIn_func (d : Nat) (f : Fn) (a b : Array Value) (w : World) : (Op.equalIn (d + 1) 41 (.func f a b) .nilFunc).run Tryd.prog w = .ok false w := by
  simp [Op.equalIn, run_underlying Tryd.underlying41]
theorem eq_func (f : Fn) (a b : Array Value) (w : World) : (Op.equal 41 (.func f a b) .nilFunc).run Tryd.prog w = .ok false w := eqIn_func 9999 f a b w
theorem eql_func (f : Fn) (a b : Array Value) (w : World) : (binOp .eql 41 (.func f a b) .nilFunc).run Tryd.prog w = .ok (.bool false) w := by
  simp only [binOp]
  simp [eq_func f a b w]
theorem fold_one (x : El) (p : Tmp) (t : Array Value) : ((#[p] : Array Tmp).zip (encE x)).foldl (fun t (p, v) => t.setIfInBounds p v) t = t.setIfInBounds p (.agg #[.bool x.1.f0, x.2]) := by simp [encE]
/-- What lies while gives goes round. -/
structure IG (w0 : World) (b : Nat) (wv : Value) (k : Nat) (W : World) : Prop where
  below : Below w0.heap.size w0 W
  want : Bx W b 22 wv
  res : Bx W (b + 1) 4 (.bool false)
  num : Bx W (b + 1 + 1) 3 (.int .i64 (k : Nat))
theorem IG.keep {w0 : World} {b : Nat} {wv : Value} {k N : Nat} {A B : World} (hN : w0.heap.size ≤ N) (h : IG w0 b wv k A) (q : KeepC N A B) : IG w0 b wv k B :=
  ⟨below_keep (Nat.le_refl _) hN h.below q, h.want.keep q, h.res.keep q, h.num.keep q⟩
theorem IG.num_set {w0 : World} {b : Nat} {wv : Value} {k k' : Nat} {A : World} (hb : w0.heap.size ≤ b) (h : IG w0 b wv k A) : IG w0 b wv k' (A.setCell ⟨b + 1 + 1, 0, none⟩ (.int .i64 (k' : Nat))) :=
  ⟨h.below.setCell (by show w0.heap.size ≤ b + 1 + 1; omega) _, blk_far h.want (by simp; omega) _, blk_far h.res (by simp) _, blk_set h.num 0 _⟩
theorem IG.far {w0 : World} {b : Nat} {wv : Value} {k : Nat} {A : World} (h : IG w0 b wv k A) {p : Addr} (hp : b + 1 + 1 < p.block) (hb : w0.heap.size ≤ b) (v : Value) : IG w0 b wv k (A.setCell p v) :=
  ⟨h.below.setCell (by omega) _, blk_far h.want (by omega) _, blk_far h.res (by omega) _, blk_far h.num (by omega) _⟩
/-- The literals' cells. -/
def LC (W : World) (A : Option Addr) (n : Nat) : Prop := ∀ G, A = some ⟨G, 0, none⟩ → ∃ cs, W.heap[G]? = some (.cells cs 3 (0, 0)) ∧ n ≤ cs.size
theorem LC_of {W : World} {N : Nat} {ok : Nat → Prop} {A : Option Addr} {n c : Nat} {l : List Int} (h : (Kd.int .i64).R 3 W N ok (.slice A n c) l) : LC W A l.length := by
  rintro G rfl
  by_cases hp : 0 < l.length
  · obtain ⟨G', cap, e, _, _, cs, hcs⟩ := Kd.R_form h hp
    have e2 : G' = G := by injection e with h1 _ _; injection h1 with h1; injection h1 with h1; exact h1.symm
    subst e2
    refine ⟨cs, hcs, ?_⟩
    have h3 := Kd.R_reads' h
    have h4 := Kd.foot_int h3.2.2 ((l.length - 1 : Nat) : Int) (by omega) (by omega)
    rw [show (Addr.add ⟨G', 0, none⟩ ((l.length - 1 : Nat) : Int).toNat) = ⟨G', l.length - 1, none⟩ by
      simp only [Addr.add, Int.toNat_natCast, Nat.zero_add]
      split
      · rename_i h0; rw [h0]
      · rfl, blk_cell hcs] at h4
    have := (Array.getElem?_eq_some_iff.1 h4).1
    omega
  · have h2 := Kd.R_typed h G rfl
    obtain ⟨cs, hcs⟩ := h2
    exact ⟨cs, hcs, by omega⟩
theorem LC.set {W : World} {A : Option Addr} {n G j : Nat} {v : Value} (h : LC W A n) (hA : A = some ⟨G, 0, none⟩) : LC (W.setCell ⟨G, j, none⟩ v) A n := by
  intro G' e
  have e2 : G' = G := by rw [hA] at e; injection e with h1; injection h1 with h1; exact h1.symm
  subst e2
  obtain ⟨cs, hcs, hn⟩ := h G' e
  exact ⟨_, blk_set hcs j v, by simpa using hn⟩
/-- The round's variable. -/
def Bv (W : World) (g : Nat) (x : S33) (v : Value) : Prop := W.heap[g]? = some (.cells #[.bool x.f0, v] 33 (0, 0))
theorem Bv.keep {N g : Nat} {x : S33} {v : Value} {A B : World} (h : Bv A g x v) (k : KeepC N A B) : Bv B g x v := k.same g _ h (.inr rfl)
set_option maxHeartbeats 8000000 in
set_option maxRecDepth 100000 in
theorem gives_true (s : ByteArray) (hs : s.size ≤ 4294967280) (A0 : Option Addr) (c0 : Nat) (g : Nat) (w0 : World) (hE : Env w0) (hg : w0.heap[g]? = some (.cells #[.string s] 9 (0, 0)))
    (hr0 : Kd.C k33 w0 A0 (readF s).1.steps.length (readF s).1.steps) (hc0 : (readF s).1.steps.length ≤ c0) (hml : ∀ x ∈ (readF s).1.steps, x.f1.length ≤ 4398046511104) (hmx : (readF s).1.steps.length ≤ 4398046511104) :
    Calls Tryd.prog 20 #[.func (.func 33) #[] #[.pointer (some ⟨g, 0, none⟩)], .slice A0 (readF s).1.steps.length c0] w0 fun e w' => e = .returned (.bool true) ∧ Below w0.heap.size w0 w' := by
  refine (callsIn_wide (n := 3)).1 ?_
  refine callsIn_of_wp_marks Tryd.func20 rfl trivial ?_ rfl
  have hseq := fun (w : World) (hb : Below w0.heap.size w0 w) => steps_seq s hs 2 g w ((hb.block g (Array.getElem?_eq_some_iff.1 hg).1).trans hg) (hE.below hb)
  obtain ⟨sl, hsl⟩ : ∃ sl, (readF s).1.steps = sl := ⟨_, rfl⟩
  rw [hsl] at hr0 hc0 hml hseq hmx
  rw [hsl]
  have HSEQ := Aside0.mk hseq
  have HR0 := Aside0.mk hr0
  have HC0 := Aside0.mk hc0
  have HML := Aside0.mk hml
  have HMX := Aside0.mk hmx
  clear hseq hr0 hc0 hml hsl hE hg hmx
  simp only [Tryd.ntmps20, List.size_toArray, List.length_cons, List.length_nil, Nat.reduceAdd, Nat.reduceSub, Array.replicate_succ, Array.replicate_zero, List.push_toArray, List.append_toArray, List.nil_append, List.cons_append]
  have hqf := fun w => eql_func (.func 33) #[] #[.pointer (some ⟨g, 0, none⟩)] w
  gi_wp2
  obtain ⟨W1, hW1⟩ : ∃ W1, ((w0.alloc (.cells #[.slice A0 sl.length c0] 22)).alloc (.cells #[.bool false] 4)).alloc (.cells #[.int .i64 0] 3) = W1 := ⟨_, rfl⟩
  have hb1 : Below w0.heap.size w0 W1 := by rw [← hW1]; exact (((Below.refl _ w0).alloc (Nat.le_refl _) _).alloc (by simp) _).alloc (by simp; omega) _
  have hsz1 : W1.heap.size = w0.heap.size + 3 := by rw [← hW1]; simp
  have h0 : IG w0 w0.heap.size (.slice A0 sl.length c0) 0 W1 := by
    refine ⟨hb1, ?_, ?_, ?_⟩
    · rw [← hW1]
      exact (Below.heap_alloc _ _ _ (by simp; omega)).trans ((Below.heap_alloc _ _ _ (by simp)).trans (World.alloc_heap_new _ _))
    · rw [← hW1]
      refine (Below.heap_alloc _ _ _ (by simp)).trans ?_
      have := World.alloc_heap_new (w0.alloc (.cells #[.slice A0 sl.length c0] 22)) (.cells #[.bool false] 4)
      rwa [World.size_alloc] at this
    · rw [← hW1]
      have := World.alloc_heap_new ((w0.alloc (.cells #[.slice A0 sl.length c0] 22)).alloc (.cells #[.bool false] 4)) (.cells #[.int .i64 0] 3)
      rwa [World.size_alloc, World.size_alloc] at this
  rw [hW1]
  clear hW1 hqf
  refine wpIn_rangeR rfl (by decide) (gf := 33) (lb := #[.pointer (some ⟨g, 0, none⟩)]) rfl trivial (enters_of Tryd.func33 (by kernel_rfl) rfl) (HSEQ.out W1 hb1) (fun _ => rfl)
    (fun pre W => IG w0 w0.heap.size (.slice A0 sl.length c0) pre.length W)
    (fun _ _ _ => False)
    (fun pre x a' W => ∃ bx, a' = { tmps := #[.func (.func 33) #[] #[.pointer (some ⟨g, 0, none⟩)], .slice A0 sl.length c0, undef, .pointer (some ⟨w0.heap.size, 0, none⟩), .pointer (some ⟨w0.heap.size + 1, 0, none⟩), .pointer (some ⟨w0.heap.size + 1 + 1, 0, none⟩), .pointer (some ⟨bx, 0, none⟩), undef, .func (.func 33) #[] #[.pointer (some ⟨g, 0, none⟩)], .bool false, .func (.func 33) #[] #[.pointer (some ⟨g, 0, none⟩)], .agg #[.bool x.1.f0, x.2], undef, undef, undef, undef, undef, undef, undef, undef, undef, undef, undef, undef, undef, undef, undef, undef, undef, undef, undef, undef, undef, undef, undef, undef, undef, undef, undef, undef, undef, undef, undef, undef, undef, undef, undef, undef, undef, undef, undef, undef, undef, undef, undef, undef], defers := [] } ∧ W1.heap.size ≤ bx ∧ Bv W bx x.1 x.2 ∧ RdS sl W1.heap.size pre x W)
    ?hI (fun _ _ _ _ h _ => h) ?hAx h0 ?assign ?body ?done ?stop
  case hI => exact fun s A B h k => h.keep (by omega) k
  case hAx => exact fun pre x a' A B ⟨bx, h1, h2, h3, h4⟩ k => ⟨bx, h1, h2, h3.keep k, h4.1, RI_keep h4.2 k⟩
  case assign =>
    rintro l pre ⟨x, xv⟩ A K hN hi ⟨hge, hR⟩ hK
    obtain ⟨Av, cv, ev⟩ := Kd.R_slice hR
    dsimp only at ev
    subst ev
    have HK := Aside0.mk hK
    have HR := Aside0.mk hR
    have HI := Aside0.mk hi
    clear hR hi hK
    rw [fold_one]
    simp only [List.setIfInBounds_toArray, List.set]
    gi_wp2
    have hbw : Below A.heap.size A (A.alloc (.cells #[.bool x.f0, .slice Av x.f1.length cv] 33)) := (Below.refl _ A).alloc (Nat.le_refl _) _
    exact HK.out _ _ (RW.below hbw) (HI.out.keep (N := W1.heap.size) (by omega) (KeepC.below hbw)) ⟨A.heap.size, rfl, hN, World.alloc_heap_new _ _, hge, Kd.R_below HR.out hbw⟩
  case body =>
    rintro l pre ⟨x, xv⟩ a' A hN hi ⟨bx, rfl, hbx, hv, hge, hR⟩
    obtain ⟨Av, cv, ev⟩ := Kd.R_slice hR
    dsimp only at ev
    subst ev
    dsimp only at hv hge hR
    have hlt : pre.length < sl.length := (List.getElem?_eq_some_iff.1 hge).1
    have hrd : rd_T33 sl ((pre.length : Nat) : Int) = x := by rw [rdT_natr hlt]; exact (List.getElem?_eq_some_iff.1 hge).2
    obtain ⟨ad, A1, c1, eA, y0, y1, hl1, hc1⟩ := at_T33 (C33_below HR0.out hi.below) ((pre.length : Nat) : Int) (by omega) (by omega)
    subst eA
    rw [hrd] at y0 y1 hl1 hc1
    rw [Int.toNat_natCast] at y0 y1
    have z0 : A.cell? ⟨bx, 0, none⟩ = some (.bool x.f0) := (blk_cell hv 0).trans rfl
    have z1 : A.cell? ⟨bx, 1, none⟩ = some (.slice Av x.f1.length cv) := (blk_cell hv 1).trans rfl
    have k3 := hi.want.cell
    have k5 := hi.num.cell
    have hlm := HML.out x (List.mem_of_getElem? hge)
    have hR2 := Kd.R_reads' hR
    have hS := fun q => CallsIn.inRound (n := 0) l (callsIn_wide.2 (depotref00_SameInts.calls (x.f1.length + 1) Av cv x.f1 A1 c1 x.f1 true (A.drewN q) (Kd.C_drewN hR2.2.2 q) hR2.2.1 (Kd.C_drewN hc1 q) hl1 (sameInts_self _ hlm _ (by omega))))
    have HS := Aside0.mk hS
    have HR := Aside0.mk hR
    have HI := Aside0.mk hi
    have HV := Aside0.mk hv
    have HGE := Aside0.mk hge
    have HLM := Aside0.mk hlm
    have hmx := HMX.out
    have hd0 : decide (sl.length ≤ pre.length) = false := decide_eq_false (by omega)
    have hd1 : decide ((sl.length : Int) ≤ (pre.length : Int)) = false := decide_eq_false (by omega)
    have hd2 : (x.f0 != x.f0) = false := bne_self_eq_false _
    clear hS hR hi hv hge hR2 hc1 hrd hlm
    gi_wp2
    refine Go.Proofs.YtooojhlndlebdaaRRRDoorRRRR.Q.region_quietR (by kernel_rfl) (by kernel_rfl) (by kernel_rfl) ?_
    repeat (gi_big_quiet_step (first | (gi_at_call 23; exact CallsIn.quiet_of ((HS.out _).mono fun e w' h => ⟨h.1, h.2.out⟩))))
    refine wpQuietIn_nil ?_
    intro _ hw'
    obtain ⟨nq, hw''⟩ := hw'
    subst hw''
    gi_wp2
    have hqb : Below A.heap.size A (A.drewN nq) := pw_below_drewN (Below.refl _ _) nq
    gi_loopw [7] (fun iv wr => ∃ j : Nat, iv = .int .i64 (j : Nat) ∧ j ≤ x.f1.length ∧ Aside0 (RW W1.heap.size (owE (x, .slice Av x.f1.length cv)) A wr) ∧ Aside0 (IG w0 w0.heap.size (.slice (some ad) sl.length c0) pre.length wr) ∧ Aside0 (Bv wr bx x (.slice Av x.f1.length cv)) ∧ Aside0 (LC wr Av x.f1.length)) (fun iv _ => x.f1.length - (RowKit.intOf iv).toNat)
    case atStart => exact ⟨0, rfl, Nat.zero_le _, ⟨RW.below hqb⟩, ⟨HI.out.keep (N := W1.heap.size) (by omega) (KeepC.below hqb)⟩, ⟨HV.out⟩, ⟨LC_of HR.out⟩⟩
    case round =>
      obtain ⟨j, rfl, hj, HRW, HI2, HV2, HL2⟩ := hrel
      clear z0 z1 k3 k5 y0 y1
      have k5 := HI2.out.num.cell
      have f5 := blk_frozen HI2.out.num 0
      have z1 : wr.cell? ⟨bx, 1, none⟩ = some (.slice Av x.f1.length cv) := (blk_cell HV2.out 1).trans rfl
      have hlm := HLM.out
      by_cases hjl : j < x.f1.length
      · obtain ⟨G, cap, e, hNG, _⟩ := Kd.R_form HR.out (by omega)
        injection e with e1 e2 e3
        subst e1
        obtain ⟨cs, hcs, hn⟩ := HL2.out G rfl
        have c1 : wr.cell? ⟨G, j, none⟩ = some cs[j] := (blk_cell hcs j).trans (Array.getElem?_eq_getElem (by omega))
        have f1 := blk_frozen hcs j
        have hbG : bx ≠ G := blk_ne HV2.out hcs (by decide)
        have hn5 : pre.length ≤ 4398046511104 := by omega
        gi_wp2
        go_roundw
        case rel =>
          refine ⟨j + 1, by simp, by omega, ⟨HRW.out.trans (RW.set (.inr rfl))⟩, ⟨HI2.out.far (by show w0.heap.size + 1 + 1 < G; omega) (Nat.le_refl _) _⟩, ⟨blk_far HV2.out hbG _⟩, ⟨HL2.out.set rfl⟩⟩
        case measure => simp [RowKit.intOf]; omega
      · have hje : j = x.f1.length := by omega
        gi_wp2
        have h := HI2.out.num_set (k' := pre.length + 1) (Nat.le_refl _)
        refine ⟨HRW.out.trans (RW.set (.inl (by show w0.heap.size + 1 + 1 < W1.heap.size; omega))), ?_⟩
        show IG _ _ _ (pre ++ [_]).length _
        rw [List.length_append]
        exact h
  case done =>
    rintro D xs A hD hS hI hK
    have hxl : xs.length = sl.length := by rw [← hS]; simp
    rw [hxl] at hI
    have k3 := hI.want.cell
    have k4 := hI.res.cell
    have k5 := hI.num.cell
    have f4 := blk_frozen hI.res 0
    have HK := Aside0.mk hK
    have HI := Aside0.mk hI
    have hmx := HMX.out
    clear hS hI hK
    gi_wp2
    have hK2 : (A.setCell ⟨w0.heap.size + 1, 0, none⟩ (.bool true)).heap[D]? = some (.deferred (some [])) := (Below.heap_setCell A _ _ D (by show D ≠ w0.heap.size + 1; omega)).trans HK.out
    refine ⟨by simp, .inl ⟨_, _, rfl, run_takeDeferred hK2, ?_⟩⟩
    have hres : ((A.setCell ⟨w0.heap.size + 1, 0, none⟩ (.bool true)).putObj D (.deferred none)).heap[w0.heap.size + 1]? = some (.cells #[.bool true] 4 (0, 0)) :=
      (World.putObj_heap_other (by omega)).trans (blk_set HI.out.res 0 _)
    have hc := (blk_cell hres 0).trans rfl
    refine ⟨.bool true, ?_, rfl, below_keep (N := W1.heap.size) (Nat.le_refl _) (by omega) (HI.out.below.setCell (by show w0.heap.size ≤ w0.heap.size + 1; omega) _) (KeepC.put hK2 rfl hD _)⟩
    simp [results, Tryd.results20, go_sem, hc]
  case stop => exact fun _ _ _ _ _ _ h _ => h.elim
end Go.Proofs.YtooojhlndlebdaaRRRDoorRRRR.R
