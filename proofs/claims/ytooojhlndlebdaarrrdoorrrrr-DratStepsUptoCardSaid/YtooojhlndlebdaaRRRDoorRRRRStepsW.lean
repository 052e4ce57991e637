/- DratSteps: the law's walk. No conditions. -/
import Derived.Test.YtooojhlndlebdaaRRRDoorRRRRLoopsQ
import Derived.Test.YtooojhlndlebdaaRRRDoorRRRRPureDratReads
set_option linter.unusedVariables false
set_option linter.unusedSimpArgs false
namespace Go.Proofs.YtooojhlndlebdaaRRRDoorRRRR.R
open Go.RowKit Go.Lib Go.Proofs.YtooojhlndlebdaaRRRDoorRRRRW.PrintWords Go.Proofs.YtooojhlndlebdaaRRRDoorRRRRW.PrintLast Go.Proofs.YtooojhlndlebdaaRRRDoorRRRRW.PrintMore
open Go.Proofs.YtooojhlndlebdaaRRRDoorRRRR.Q (KeepC KC RW SeqR postR wpIn_rangeR)
attribute [local go_sem] Oper.semAt_some wide_fn

theorem run_store_func {P : Program} {w : World} {a : Addr} {f : Fn} {b c : Array Value} {m : Mode} : (store a (.func f b c) m).run P w = stored P w a (.func f b c) m := run_store P w a _ m rfl
attribute [local go_sem] run_store_func
theorem open_frame7 {F : Fence} {n : Nat} {P : Program} {c : Code} {Q : Exit → Act → World → Prop} {ts : Array Value} {ds : List Deferred} {w : World} (h : ∀ T0, ts = T0 → c.wpIn F n P Q { tmps := T0, defers := ds } w) : c.wpIn F n P Q { tmps := ts, defers := ds } w := h ts rfl
theorem Bx.at {g t : Nat} {v : Value} {A B : World} (h : Bx A g t v) (q : Below A.heap.size A B) : Bx B g t v := h.keep (KeepC.below (N := 0) q)
theorem ret_true7 {W : World} {b : Nat} {ts : Array Value} {v : Value} (hp : ts.getD 4 undef = .pointer (some ⟨b, 0, none⟩)) (h : W.heap[b]? = some (.cells #[v] 4 (0, 0))) (hv : v = .bool true) : (results Tryd.f7 ts).run Tryd.prog (W) = .ok (.bool true) W := by
  subst hv
  have hc : W.cell? ⟨b, 0, none⟩ = some (.bool true) := (blk_cell h 0).trans rfl
  rw [Array.getD_eq_getD_getElem?] at hp
  simp [results, Tryd.results7, go_sem, hc, hp]
set_option maxHeartbeats 4000000 in
set_option maxRecDepth 100000 in
/-- The reference's steps. -/
theorem refSteps_calls (s : ByteArray) (hs : s.size ≤ 1048576) (w : World) (hE : Env w) : Calls Tryd.prog 22 #[.string s] w fun e w' => ∃ v : Value, e = .returned v ∧ Kd.S k33 33 w' w.heap.size (fun _ => True) v (readF s).1.steps ∧ Below w.heap.size w w' := by
  obtain ⟨K, hK⟩ : ∃ K : Nat, 10000000000000 < K := ⟨10000000000001, by omega⟩
  have hp := depotref09_Parse.calls K s _ _ w hE (parse_is s hs K (by omega))
  have HP := Aside0.mk hp
  clear hp hE
  go_enter Tryd.func22, Tryd.ntmps22
  go_wp2_with fail
  refine HP.out.mono ?_
  rintro e w1 ⟨v, rfl, hS, hb⟩
  have HS := Aside0.mk hS
  have HB := Aside0.mk hb
  clear hS hb
  go_wp2_with fail
  go_ret
  exact ⟨v, rfl, HS.out, HB.out⟩
set_option maxHeartbeats 16000000 in
set_option maxRecDepth 100000 in
theorem steps_law (s : ByteArray) (k : Int) (w0 : World) (hs : s.size ≤ 1048576) (hE : Env w0) :
    Calls Tryd.prog 7 #[.string s, .int .i64 k] w0 fun e w' => e = .returned (.bool true) ∧ Below w0.heap.size w0 w' := by
  obtain ⟨W1, hW1⟩ : ∃ W1, (w0.alloc (.cells #[.int .i64 k] 3)).alloc (.cells #[.bool false] 4) = W1 := ⟨_, rfl⟩
  have hb1 : Below w0.heap.size w0 W1 := by rw [← hW1]; exact ((Below.refl _ w0).alloc (Nat.le_refl _) _).alloc (by simp) _
  have hx3 : Bx W1 w0.heap.size 3 (.int .i64 k) := by rw [← hW1]; exact blk_alloc (blk_new w0 _) _
  have hx4 : Bx W1 (w0.heap.size + 1) 4 (.bool false) := by
    rw [← hW1]
    have := blk_new (w0.alloc (.cells #[.int .i64 k] 3)) (.cells #[.bool false] 4)
    rw [World.size_alloc] at this
    exact this
  have hrs := (callsIn_wide (n := 2)).2 (refSteps_calls s hs W1 (hE.below hb1))
  have hbd := readF_bound s hs
  obtain ⟨sl, hsl⟩ : ∃ sl, (readF s).1.steps = sl := ⟨_, rfl⟩
  rw [hsl] at hrs hbd
  have HSL := Aside0.mk hsl
  have HB1 := Aside0.mk hb1
  have HX3 := Aside0.mk hx3
  have HX4 := Aside0.mk hx4
  have HRS := Aside0.mk hrs
  have HBD := Aside0.mk hbd
  have HE := Aside0.mk hE
  have HS0 := Aside0.mk hs
  clear hsl hb1 hx3 hx4 hrs hbd hE hs
  refine (callsIn_wide (n := 3)).1 ?_
  refine callsIn_of_wp_marks Tryd.func7 rfl trivial ?_ rfl
  simp only [Tryd.ntmps7, List.size_toArray, List.length_cons, List.length_nil, Nat.reduceAdd, Nat.reduceSub, Array.replicate_succ, Array.replicate_zero, List.push_toArray, List.append_toArray, List.nil_append, List.cons_append]
  gi_wp2
  refine HRS.out.mono ?_
  rintro e Wt ⟨v, rfl, hS, hbt⟩
  obtain ⟨Aw, cw, ev, hcw, hCt⟩ := Kd.S_reads hS
  subst ev
  have HCT := Aside0.mk hCt
  have HCW := Aside0.mk hcw
  have HBT := Aside0.mk hbt
  clear hS hcw hCt hbt hW1 HRS
  gi_wp2
  obtain ⟨W2, hW2⟩ : ∃ W2, Wt.alloc (.cells #[.slice Aw sl.length cw] 22) = W2 := ⟨_, rfl⟩
  rw [hW2]
  have HB2 := Aside0.mk (show Below Wt.heap.size Wt W2 by rw [← hW2]; exact (Below.refl _ Wt).alloc (Nat.le_refl _) _)
  have HX5 := Aside0.mk (show Bx W2 Wt.heap.size 22 (.slice Aw sl.length cw) by rw [← hW2]; exact blk_new Wt _)
  clear hW2
  gi_wp2
  refine ((callsIn_wide (n := 2)).2 (steps_calls s W2)).mono ?_
  rintro e W3 ⟨rfl, hW3⟩
  have hb3 : Below W2.heap.size W2 W3 := by rw [hW3]; exact (Below.refl _ W2).alloc (Nat.le_refl _) _
  have HB3 := Aside0.mk (HB2.out.trans (hb3.mono HB2.out.size))
  have HG := Aside0.mk (show Bx W3 W2.heap.size 9 (.string s) by rw [hW3]; exact blk_new W2 _)
  have H53 := Aside0.mk (HX5.out.at hb3)
  clear hW3 hb3
  obtain ⟨W4, hW4⟩ : ∃ W4, W3.alloc (.cells #[.func (.func 33) #[] #[.pointer (some ⟨W2.heap.size, 0, none⟩)]] 41) = W4 := ⟨_, rfl⟩
  have hb4 : Below W3.heap.size W3 W4 := by rw [← hW4]; exact (Below.refl _ W3).alloc (Nat.le_refl _) _
  have HB4 := Aside0.mk (HB3.out.trans (hb4.mono HB3.out.size))
  have HG4 := Aside0.mk (HG.out.at hb4)
  have H54 := Aside0.mk (H53.out.at hb4)
  have hx6 : Bx W4 W3.heap.size 41 (.func (.func 33) #[] #[.pointer (some ⟨W2.heap.size, 0, none⟩)]) := by rw [← hW4]; exact blk_new W3 _
  have H64 := Aside0.mk hx6
  have k6 := hx6.cell
  clear hb4 hx6
  have hqf := fun w => eql_func (.func 33) #[] #[.pointer (some ⟨W2.heap.size, 0, none⟩)] w
  have k6b : ∀ o, (W4.alloc o).cell? ⟨W3.heap.size, 0, none⟩ = some (.func (.func 33) #[] #[.pointer (some ⟨W2.heap.size, 0, none⟩)]) := fun o => (H64.out.at ((Below.refl _ W4).alloc (Nat.le_refl _) o)).cell
  gi_wp2
  obtain ⟨W5, hW5⟩ : ∃ W5, W4.alloc (.cells #[.int .i64 0] 3) = W5 := ⟨_, rfl⟩
  rw [hW5]
  have hb5 : Below W4.heap.size W4 W5 := by rw [← hW5]; exact (Below.refl _ W4).alloc (Nat.le_refl _) _
  obtain ⟨Bs, hBs⟩ : ∃ Bs : List (Nat × Nat × Value), Bs = [(Wt.heap.size, 22, .slice Aw sl.length cw), (W2.heap.size, 9, .string s), (W3.heap.size, 41, .func (.func 33) #[] #[.pointer (some ⟨W2.heap.size, 0, none⟩)])] := ⟨_, rfl⟩
  have hI0 : IB Wt Bs W4.heap.size 0 W5 := ⟨HB4.out.trans (hb5.mono HB4.out.size), fun x hx => by
    rw [hBs] at hx
    simp only [List.mem_cons, List.not_mem_nil, or_false] at hx
    rcases hx with rfl | rfl | rfl
    · exact H54.out.at hb5
    · exact HG4.out.at hb5
    · exact H64.out.at hb5, by rw [← hW5]; exact blk_new W4 _⟩
  have hN7 : Wt.heap.size ≤ W4.heap.size ∧ W4.heap.size < W5.heap.size := ⟨HB4.out.size, by rw [← hW5]; simp⟩
  have HN7 := Aside0.mk hN7
  have HI0 := Aside0.mk hI0
  have HB0 := Aside0.mk hBs
  have hg5 := fun (W : World) (h : IB Wt Bs W4.heap.size 0 W) => True
  clear hg5
  have HT5 := Aside0.mk (fun (W : World) (j : Nat) (h : IB Wt Bs W4.heap.size j W) => h.boxes (Wt.heap.size, 22, .slice Aw sl.length cw) (by rw [hBs]; simp))
  have HT9 := Aside0.mk (fun (W : World) (j : Nat) (h : IB Wt Bs W4.heap.size j W) => h.boxes (W2.heap.size, 9, .string s) (by rw [hBs]; simp))
  have HT6 := Aside0.mk (fun (W : World) (j : Nat) (h : IB Wt Bs W4.heap.size j W) => h.boxes (W3.heap.size, 41, .func (.func 33) #[] #[.pointer (some ⟨W2.heap.size, 0, none⟩)]) (by rw [hBs]; simp))
  have HT3 := Aside0.mk (fun (W : World) (h : Below Wt.heap.size Wt W) => (HX3.out.at HBT.out).at h)
  have HT4 := Aside0.mk (fun (W : World) (h : Below Wt.heap.size Wt W) => (HX4.out.at HBT.out).at h)
  have HCW2 := Aside0.mk (fun (W : World) (h : Below Wt.heap.size Wt W) => C33_below HCT.out h)
  have HEW := Aside0.mk (fun (W : World) (h : Below Wt.heap.size Wt W) => (HE.out.below HB1.out |>.below HBT.out).below h)
  have HGV := Aside0.mk (fun (W : World) (j : Nat) (h : IB Wt Bs W4.heap.size j W) => by
    have hq := gives_true s (by have := HS0.out; omega) Aw cw W2.heap.size W (HEW.out W h.below) (HT9.out W j h)
    rw [HSL.out] at hq
    exact hq (HCW2.out W h.below) HCW.out (fun x hx => Nat.le_trans (HBD.out.1 x hx) (by decide)) (Nat.le_trans HBD.out.2 (by decide)))
  have hsqs := fun (W : World) (j : Nat) (h : IB Wt Bs W4.heap.size j W) => steps_seq s (by have := HS0.out; omega) 2 W2.heap.size W (HT9.out W j h) (HEW.out W h.below)
  rw [HSL.out] at hsqs
  have HSQ := Aside0.mk hsqs
  clear hW4 hW5 hb5 hBs hI0 hqf hN7 hsqs k6 k6b
  clear HB2 HX5 HB3 HG H53 HB4 HG4 H54 H64
  rename_i K0 hK0
  refine open_frame7 fun T0 hT0 => ?_
  have HT0 := Aside0.mk hT0
  clear hT0
  have rest : ∀ (D nn : Nat) (A : World), W5.heap.size ≤ D → ((nn : Int) = k ∨ nn = sl.length) → nn ≤ sl.length → IB Wt Bs W4.heap.size nn A → A.heap[D]? = some (.deferred (some [])) → K0 { tmps := T0, defers := [{ target := .collected D, args := #[] }] } A := by
    intro D nn A hD hnn hnl hI hK
    refine hK0 _ _ ?_
    clear hK0
    rw [← HT0.out]
    have k7 := hI.num.cell
    have f7 := blk_frozen hI.num 0
    have k5 := (HT5.out A _ hI).cell
    have k6 := (HT6.out A _ hI).cell
    have k3 := (HT3.out A hI.below).cell
    have hmx := HBD.out.2
    have HGV1 := Aside0.mk ((callsIn_wide (n := 2)).2 (HGV.out A nn hI))
    have HI := Aside0.mk hI
    have HKD := Aside0.mk hK
    have HD := Aside0.mk hD
    have HNN := Aside0.mk hnn
    clear hI hK hD hnn
    by_cases hk : (nn : Int) = k
    case' pos =>
      have hkb : ((nn : Int) == k) = true := beq_iff_eq.2 hk
      have hkc : ((nn : Int) != k) = false := bne_eq_false_iff_eq.2 hk
      gi_wp2
    case' neg =>
      have hnl2 : nn = sl.length := HNN.out.resolve_left hk
      subst hnl2
      have hkb : (((sl.length : Nat) : Int) == k) = false := beq_eq_false_iff_ne.2 hk
      have hkc : (((sl.length : Nat) : Int) != k) = true := bne_iff_ne.2 hk
      gi_wp2
    all_goals
      refine HGV1.out.mono ?_
      rintro e A2 ⟨rfl, hb2⟩
      have hI2 := HI.out.on hb2
      have hD2 : A2.heap[D]? = some (.deferred (some [])) := (hb2.block D (blk_lt HKD.out)).trans HKD.out
      have HI2 := Aside0.mk hI2
      have HD2 := Aside0.mk hD2
      clear k7 f7 k5 k6 k3 hb2 HGV1
      have k7 := hI2.num.cell
      have f7 := blk_frozen hI2.num 0
      obtain ⟨C0, hC0⟩ : ∃ C0, A2.setCell ⟨W4.heap.size, 0, none⟩ (.int .i64 0) = C0 := ⟨_, rfl⟩
      have hI3 : IB Wt Bs W4.heap.size 0 C0 := by rw [← hC0]; exact hI2.num_set (k' := 0) HN7.out.1 (by rw [HB0.out]; simp)
      have hD3 : C0.heap[D]? = some (.deferred (some [])) := by
        rw [← hC0]
        exact (Below.heap_setCell A2 _ _ D (by show D ≠ W4.heap.size; have := HN7.out.2; have := HD.out; omega)).trans hD2
      have HI3 := Aside0.mk hI3
      have HD3 := Aside0.mk hD3
      have k63 := (HT6.out C0 _ hI3).cell
      clear hI2 hD2 hI3 hD3
      gi_wp2
      clear hC0 k7 f7 k63
      refine open_frame7 fun T1 hT1 => ?_
      have HT1 := Aside0.mk hT1
      clear hT1
      have hDC : D < C0.heap.size := blk_lt HD3.out
      have HDC := Aside0.mk hDC
      clear hDC
      refine wpIn_rangeR rfl (by decide) (gf := 33) (lb := #[.pointer (some ⟨W2.heap.size, 0, none⟩)]) (by show T1.getD 63 undef = _; rw [← HT1.out]; rfl) trivial (enters_of Tryd.func33 (by kernel_rfl) rfl) (HSQ.out C0 0 HI3.out) (fun _ => rfl)
        (fun pre B => IB Wt Bs W4.heap.size pre.length B ∧ B.heap[D]? = some (.deferred (some [])))
        (fun _ _ _ => False)
        (fun pre x a' B => ∃ bx, a' = { tmps := (T1.setIfInBounds 64 (.agg #[.bool x.1.f0, x.2])).setIfInBounds 9 (.pointer (some ⟨bx, 0, none⟩)), defers := [] } ∧ C0.heap.size ≤ bx ∧ Bv B bx x.1 x.2 ∧ RdS sl C0.heap.size pre x B)
        ?hI (fun _ _ _ _ h _ => h) ?hAx ⟨HI3.out, HD3.out⟩ ?assign ?body ?done ?stop
      case hI => exact fun s A B h k => ⟨h.1.keep HI3.out.below.size k, k.same D _ h.2 (.inl HDC.out)⟩
      case hAx => exact fun pre x a' A B ⟨bx, h1, h2, h3, h4⟩ k => ⟨bx, h1, h2, h3.keep k, h4.1, RI_keep h4.2 k⟩
      case assign =>
        rintro l pre ⟨x, xv⟩ A K hN hi ⟨hge, hR⟩ hK
        obtain ⟨Av, cv, ev⟩ := Kd.R_slice hR
        dsimp only at ev
        subst ev
        have HKQ := Aside0.mk hK
        have HR := Aside0.mk hR
        have HI := Aside0.mk hi
        clear hR hi hK
        rw [fold_one]
        dsimp only
        rw [← HT1.out]
        simp only [List.setIfInBounds_toArray, List.set]
        gi_wp2
        have hbw : Below A.heap.size A (A.alloc (.cells #[.bool x.f0, .slice Av x.f1.length cv] 33)) := (Below.refl _ A).alloc (Nat.le_refl _) _
        refine HKQ.out _ _ (RW.below hbw) ⟨HI.out.1.on hbw, (hbw.block D (blk_lt HI.out.2)).trans HI.out.2⟩ ⟨A.heap.size, ?_, hN, World.alloc_heap_new _ _, hge, Kd.R_below HR.out hbw⟩
        rw [← HT1.out]
        rfl
      case body =>
        rintro l pre ⟨x, xv⟩ a' A hN ⟨hi, hDA⟩ ⟨bx, rfl, hbx, hv, hge, hR⟩
        obtain ⟨Av, cv, ev⟩ := Kd.R_slice hR
        dsimp only at ev
        subst ev
        dsimp only at hv hge hR
        have hlt : pre.length < sl.length := (List.getElem?_eq_some_iff.1 hge).1
        have hrd : rd_T33 sl ((pre.length : Nat) : Int) = x := by rw [rdT_natr hlt]; exact (List.getElem?_eq_some_iff.1 hge).2
        obtain ⟨ad, A3, c3, eA, y0, y1, hl1, hc1⟩ := at_T33 (HCW2.out A hi.below) ((pre.length : Nat) : Int) (by omega) (by omega)
        rw [hrd] at y0 y1 hl1 hc1
        rw [Int.toNat_natCast] at y0 y1
        have hz0 : ∀ i : Wb A, i.val.cell? ⟨bx, 0, none⟩ = some (.bool x.f0) := fun i => Kd.cell_heap (fun k hk => i.bel.block k hk) ((blk_cell hv 0).trans rfl)
        have hz1 : ∀ i : Wb A, i.val.cell? ⟨bx, 1, none⟩ = some (.slice Av x.f1.length cv) := fun i => Kd.cell_heap (fun k hk => i.bel.block k hk) ((blk_cell hv 1).trans rfl)
        have hy0 := fun i : Wb A => Kd.cell_heap (fun k hk => i.bel.block k hk) y0
        have hy1 := fun i : Wb A => Kd.cell_heap (fun k hk => i.bel.block k hk) y1
        have h5 := fun i : Wb A => (HT5.out i.val _ (hi.on i.bel)).cell
        have h6 := fun i : Wb A => (HT6.out i.val _ (hi.on i.bel)).cell
        have h7 := fun i : Wb A => (hi.on i.bel).num.cell
        have hlm := HBD.out.1 x (List.mem_of_getElem? hge)
        have hR2 := Kd.R_reads' hR
        have hSI : ∀ i : Wb A, CallsIn (Fence.wide.inRound l) 0 Tryd.prog 23 #[.slice Av x.f1.length cv, .slice A3 x.f1.length c3] i.val fun e w' => e = .returned (.bool true) ∧ ∃ j : Wb A, w' = j.val := fun i =>
          CallsIn.inRound (n := 0) l (callsIn_wide.2 ((depotref00_SameInts.calls (x.f1.length + 1) Av cv x.f1 A3 c3 x.f1 true i.val (Kd.C_below hR2.2.2 i.bel) hR2.2.1 (Kd.C_below hc1 i.bel) hl1 (sameInts_self _ (by omega) _ (by omega))).mono fun e w' h => by
            obtain ⟨h1, ⟨m, hm⟩⟩ := h
            refine ⟨h1, ⟨⟨w', i.bel.trans ?_⟩, rfl⟩⟩
            rw [hm]
            exact (pw_below_drewN (Below.refl _ _) m).mono i.bel.size))
        have hGI : ∀ i : Wb A, CallsIn (Fence.wide.inRound l) 0 Tryd.prog 20 #[.func (.func 33) #[] #[.pointer (some ⟨W2.heap.size, 0, none⟩)], .slice Aw sl.length cw] i.val fun e w' => e = .returned (.bool true) ∧ ∃ j : Wb A, w' = j.val := fun i =>
          CallsIn.inRound (n := 0) l (callsIn_wide.2 ((HGV.out i.val _ (hi.on i.bel)).mono fun e w' h => ⟨h.1, ⟨⟨w', i.bel.trans (h.2.mono i.bel.size)⟩, rfl⟩⟩))
        have hnw : Nonempty (Wb A) := ⟨⟨A, Below.refl _ _⟩⟩
        have HSI := Aside0.mk hSI
        have HGI := Aside0.mk hGI
        have HI := Aside0.mk hi
        have HDA := Aside0.mk hDA
        have hmx := HBD.out.2
        have hd0 : decide (sl.length ≤ pre.length) = false := decide_eq_false (by omega)
        have hd1 : decide ((sl.length : Int) ≤ (pre.length : Int)) = false := decide_eq_false (by omega)
        have hd2 : (x.f0 != x.f0) = false := bne_self_eq_false _
        have EA := Aside0.mk eA
        clear hSI hGI hR hi hv hge hR2 hc1 hrd hlm eA y0 y1 hDA
        have HT2 := Aside0.mk HT1.out
        rw [EA.out] at h5 HGI HT2
        dsimp only
        rw [← HT2.out]
        simp only [List.setIfInBounds_toArray, List.set]
        by_cases h4 : pre.length < 4
        case' pos =>
          have hd4 : decide (pre.length < 4) = true := decide_eq_true h4
          have hd5 : decide ((pre.length : Int) < 4) = true := decide_eq_true (by omega)
        case' neg =>
          have hd4 : decide (pre.length < 4) = false := decide_eq_false h4
          have hd5 : decide ((pre.length : Int) < 4) = false := decide_eq_false (by omega)
        all_goals
          gi_wp2
          refine region_classR (by kernel_rfl) (by kernel_rfl) (by kernel_rfl) ?_
          repeat (gi_big_quiet_step (first | (gi_at_call 23; exact HSI.out _) | (gi_at_call 20; exact HGI.out _)))
          refine wpQuietIn_nil ?_
          intro _ hw'
          obtain ⟨i, hw''⟩ := hw'
          subst hw''
          clear hz0 hz1 hy0 hy1 h5 h6 h7
          have hib := HI.out.on i.bel
          have k7 := hib.num.cell
          have f7 := blk_frozen hib.num 0
          have HIB := Aside0.mk hib
          clear hib
          gi_wp2
          have h := HIB.out.num_set (k' := pre.length + 1) HN7.out.1 (by rw [HB0.out]; simp)
          have hDi : i.val.heap[D]? = some (.deferred (some [])) := (i.bel.block D (blk_lt HDA.out)).trans HDA.out
          have hne : D ≠ W4.heap.size := by
            have := HN7.out.2
            have := HD.out
            omega
          refine ⟨(RW.below i.bel).trans (RW.set (.inl (by show W4.heap.size < C0.heap.size; have := HDC.out; have := HN7.out.2; have := HD.out; omega))), ?_⟩
          show IB _ _ _ (pre ++ [_]).length _ ∧ _
          rw [List.length_append]
          exact ⟨h, (Below.heap_setCell i.val _ _ D hne).trans hDi⟩
      case done =>
        rintro D2 xs A hD2 hS ⟨hI, hDA⟩ hK
        have hxl : xs.length = sl.length := by have h := congrArg List.length hS; simpa using h
        rw [hxl] at hI
        have k7 := hI.num.cell
        have k5 := (HT5.out A _ hI).cell
        have k6 := (HT6.out A _ hI).cell
        have hmx := HBD.out.2
        have HGV2 := Aside0.mk ((callsIn_wide (n := 2)).2 (HGV.out A _ hI))
        have HI := Aside0.mk hI
        have HKD2 := Aside0.mk hK
        have HDA := Aside0.mk hDA
        have HZ2 := Aside0.mk hD2
        clear hI hK hDA hD2 hS hxl
        dsimp only
        rw [← HT1.out]
        gi_wp2
        refine HGV2.out.mono ?_
        rintro e A3 ⟨rfl, hb3⟩
        have HI3b := Aside0.mk (HI.out.on hb3)
        have HK3 := Aside0.mk ((hb3.block D2 (blk_lt HKD2.out)).trans HKD2.out)
        have HD3b := Aside0.mk ((hb3.block D (blk_lt HDA.out)).trans HDA.out)
        clear hb3 HGV2 k7 k5 k6
        gi_wp2
        refine ((callsIn_wide (n := 2)).2 (steps_calls oneS A3)).mono ?_
        rintro e A4 ⟨rfl, rfl⟩
        gi_wp2
        obtain ⟨A5, hA5⟩ : ∃ A5, ((A3.alloc (.cells #[.string oneS] 9)).alloc (.cells #[.int .i64 1] 3)).alloc (.cells #[.bool false, .slice (some ⟨A3.heap.size + 1, 0, none⟩) 1 1] 33) = A5 := ⟨_, rfl⟩
        have hb : Below A3.heap.size A3 A5 := by rw [← hA5]; exact (((Below.refl _ A3).alloc (Nat.le_refl _) _).alloc (by simp) _).alloc (by simp; omega) _
        have e0 : A5.heap[A3.heap.size]? = some (.cells #[.string oneS] 9 (0, 0)) := by rw [← hA5]; exact blk_alloc (blk_alloc (blk_new A3 _) _) _
        have e1 : A5.heap[A3.heap.size + 1]? = some (.cells #[.int .i64 1] 3 (0, 0)) := by
          rw [← hA5]
          have := blk_new (A3.alloc (.cells #[.string oneS] 9)) (.cells #[.int .i64 1] 3)
          rw [World.size_alloc] at this
          exact blk_alloc this _
        have e2 : A5.heap[A3.heap.size + 1 + 1]? = some (.cells #[.bool false, .slice (some ⟨A3.heap.size + 1, 0, none⟩) 1 1] 33 (0, 0)) := by
          rw [← hA5]
          have := blk_new ((A3.alloc (.cells #[.string oneS] 9)).alloc (.cells #[.int .i64 1] 3)) (.cells #[.bool false, .slice (some ⟨A3.heap.size + 1, 0, none⟩) 1 1] 33)
          rw [World.size_alloc, World.size_alloc] at this
          exact this
        rw [hA5]
        have HI5 := Aside0.mk (HI3b.out.on hb)
        have HK5 := Aside0.mk ((hb.block D2 (blk_lt HK3.out)).trans HK3.out)
        have HD5 := Aside0.mk ((hb.block D (blk_lt HD3b.out)).trans HD3b.out)
        refine ((callsIn_wide (n := 2)).2 (gives_one (A3.heap.size + 1) (A3.heap.size + 1 + 1) A3.heap.size A5 (HEW.out A5 HI5.out.below) e0 e1 e2)).mono ?_
        rintro e A6 ⟨rfl, hb6⟩
        have HI6 := Aside0.mk (HI5.out.on hb6)
        have HK6 := Aside0.mk ((hb6.block D2 (blk_lt HK5.out)).trans HK5.out)
        have HD6 := Aside0.mk ((hb6.block D (blk_lt HD5.out)).trans HD5.out)
        clear hb e0 e1 e2 hA5 hb6
        have x4 := HT4.out A6 HI6.out.below
        have k4 := x4.cell
        have f4 := blk_frozen x4 0
        have X4 := Aside0.mk x4
        clear x4
        gi_wp2
        have hlt4 : w0.heap.size + 1 < W1.heap.size := blk_lt HX4.out
        have hw1 : W1.heap.size ≤ Wt.heap.size := HBT.out.size
        have hw5 := HN7.out
        have hD0 := HD.out
        have hz2 := HZ2.out
        have hdc := HDC.out
        have hK7 : (A6.setCell ⟨w0.heap.size + 1, 0, none⟩ (.bool true)).heap[D2]? = some (.deferred (some [])) := (Below.heap_setCell A6 _ _ D2 (by show D2 ≠ w0.heap.size + 1; omega)).trans HK6.out
        have hD7 : ((A6.setCell ⟨w0.heap.size + 1, 0, none⟩ (.bool true)).putObj D2 (.deferred none)).heap[D]? = some (.deferred (some [])) :=
          (World.putObj_heap_other (by omega)).trans ((Below.heap_setCell A6 _ _ D (by show D ≠ w0.heap.size + 1; omega)).trans HD6.out)
        refine ⟨by simp, .inl ⟨_, _, rfl, run_takeDeferred hK7, ⟨by simp, .inl ⟨_, _, rfl, run_takeDeferred hD7, ?_⟩⟩⟩⟩
        have hres : (((A6.setCell ⟨w0.heap.size + 1, 0, none⟩ (.bool true)).putObj D2 (.deferred none)).putObj D (.deferred none)).heap[w0.heap.size + 1]? = some (.cells #[.bool true] 4 (0, 0)) :=
          (World.putObj_heap_other (by omega)).trans ((World.putObj_heap_other (by omega)).trans (blk_set X4.out 0 _))
        have hbA : Below w0.heap.size w0 A6 := (HB1.out.trans (HBT.out.mono (by omega))).trans (HI6.out.below.mono (by omega))
        refine ⟨.bool true, ret_true7 rfl hres rfl, rfl, ?_⟩
        refine below_keep (N := w0.heap.size) (Nat.le_refl _) (Nat.le_refl _) ?_ (KeepC.put hD7 rfl (by omega) _)
        refine below_keep (N := w0.heap.size) (Nat.le_refl _) (Nat.le_refl _) ?_ (KeepC.put hK7 rfl (by omega) _)
        exact hbA.setCell (by show w0.heap.size ≤ w0.heap.size + 1; omega) _
      case stop => exact fun _ _ _ _ _ _ h _ => h.elim
  refine wpIn_rangeR rfl (by decide) (gf := 33) (lb := #[.pointer (some ⟨W2.heap.size, 0, none⟩)]) (by show T0.getD 16 undef = _; rw [← HT0.out]; rfl) trivial (enters_of Tryd.func33 (by kernel_rfl) rfl) (HSQ.out W5 0 HI0.out) (fun _ => rfl)
    (fun pre B => IB Wt Bs W4.heap.size pre.length B ∧ pre.length ≤ sl.length)
    (fun c _ B => c = .exit 0 ∧ ∃ j : Nat, (j : Int) = k ∧ j ≤ sl.length ∧ IB Wt Bs W4.heap.size j B)
    (fun pre x a' B => ∃ bx, a' = { tmps := (T0.setIfInBounds 17 (.agg #[.bool x.1.f0, x.2])).setIfInBounds 8 (.pointer (some ⟨bx, 0, none⟩)), defers := [] } ∧ W5.heap.size ≤ bx ∧ Bv B bx x.1 x.2 ∧ RdS sl W5.heap.size pre x B)
    ?hI ?hIx ?hAx ⟨HI0.out, Nat.zero_le _⟩ ?assign ?body ?done ?stop
  case hI => exact fun s A B h k => ⟨h.1.keep (by have := HN7.out; omega) k, h.2⟩
  case hIx => exact fun c s A B ⟨h1, j, h2, h3, h4⟩ k => ⟨h1, j, h2, h3, h4.keep (by have := HN7.out; omega) k⟩
  case hAx => exact fun pre x a' A B ⟨bx, h1, h2, h3, h4⟩ k => ⟨bx, h1, h2, h3.keep k, h4.1, RI_keep h4.2 k⟩
  case assign =>
    rintro l pre ⟨x, xv⟩ A K hN hi ⟨hge, hR⟩ hK
    obtain ⟨Av, cv, ev⟩ := Kd.R_slice hR
    dsimp only at ev
    subst ev
    have HKQ := Aside0.mk hK
    have HR := Aside0.mk hR
    have HI := Aside0.mk hi
    clear hR hi hK rest hK0
    rw [fold_one]
    dsimp only
    rw [← HT0.out]
    simp only [List.setIfInBounds_toArray, List.set]
    gi_wp2
    have hbw : Below A.heap.size A (A.alloc (.cells #[.bool x.f0, .slice Av x.f1.length cv] 33)) := (Below.refl _ A).alloc (Nat.le_refl _) _
    refine HKQ.out _ _ (RW.below hbw) ⟨HI.out.1.on hbw, HI.out.2⟩ ⟨A.heap.size, ?_, hN, World.alloc_heap_new _ _, hge, Kd.R_below HR.out hbw⟩
    rw [← HT0.out]
    rfl
  case body =>
    clear rest hK0
    rintro l pre ⟨x, xv⟩ a' A hN ⟨hi, hpl⟩ ⟨bx, rfl, hbx, hv, hge, hR⟩
    obtain ⟨Av, cv, ev⟩ := Kd.R_slice hR
    dsimp only at ev
    subst ev
    dsimp only at hv hge hR
    have hlt : pre.length < sl.length := (List.getElem?_eq_some_iff.1 hge).1
    have hrd : rd_T33 sl ((pre.length : Nat) : Int) = x := by rw [rdT_natr hlt]; exact (List.getElem?_eq_some_iff.1 hge).2
    obtain ⟨ad, A2, c2, eA, y0, y1, hl1, hc1⟩ := at_T33 (HCW2.out A hi.below) ((pre.length : Nat) : Int) (by omega) (by omega)
    rw [hrd] at y0 y1 hl1 hc1
    rw [Int.toNat_natCast] at y0 y1
    have z0 : A.cell? ⟨bx, 0, none⟩ = some (.bool x.f0) := (blk_cell hv 0).trans rfl
    have z1 : A.cell? ⟨bx, 1, none⟩ = some (.slice Av x.f1.length cv) := (blk_cell hv 1).trans rfl
    have k5 := (HT5.out A _ hi).cell
    have k3 := (HT3.out A hi.below).cell
    have k7 := hi.num.cell
    have f7 := blk_frozen hi.num 0
    have hlm := HBD.out.1 x (List.mem_of_getElem? hge)
    have hR2 := Kd.R_reads' hR
    have hS := fun q => CallsIn.inRound (n := 0) l (callsIn_wide.2 (depotref00_SameInts.calls (x.f1.length + 1) Av cv x.f1 A2 c2 x.f1 true (A.drewN q) (Kd.C_drewN hR2.2.2 q) hR2.2.1 (Kd.C_drewN hc1 q) hl1 (sameInts_self _ (by omega) _ (by omega))))
    have HS := Aside0.mk hS
    have HI := Aside0.mk hi
    have hmx := HBD.out.2
    have hd0 : decide (sl.length ≤ pre.length) = false := decide_eq_false (by omega)
    have hd1 : decide ((sl.length : Int) ≤ (pre.length : Int)) = false := decide_eq_false (by omega)
    have hd2 : (x.f0 != x.f0) = false := bne_self_eq_false _
    have EA := Aside0.mk eA
    clear hS hR hi hv hge hR2 hc1 hrd hlm eA
    have HT1 := Aside0.mk HT0.out
    rw [EA.out] at k5 HT1
    dsimp only
    rw [← HT1.out]
    simp only [List.setIfInBounds_toArray, List.set]
    gi_wp2
    refine Go.Proofs.YtooojhlndlebdaaRRRDoorRRRR.Q.region_quietR (by kernel_rfl) (by kernel_rfl) (by kernel_rfl) ?_
    repeat (gi_big_quiet_step (first | (gi_at_call 23; exact CallsIn.quiet_of ((HS.out _).mono fun e w' h => ⟨h.1, h.2.out⟩))))
    refine wpQuietIn_nil ?_
    intro _ hw'
    obtain ⟨nq, hw''⟩ := hw'
    subst hw''
    have hqb : Below A.heap.size A (A.drewN nq) := pw_below_drewN (Below.refl _ _) nq
    have HQB := Aside0.mk hqb
    clear hqb
    by_cases hk : (pre.length : Int) = k
    · have hkb : ((pre.length : Int) == k) = true := beq_iff_eq.2 hk
      gi_wp2
      exact ⟨RW.below HQB.out, rfl, pre.length, hk, hpl, HI.out.on HQB.out⟩
    · have hkb : ((pre.length : Int) == k) = false := beq_eq_false_iff_ne.2 hk
      gi_wp2
      have h := (HI.out.on HQB.out).num_set (k' := pre.length + 1) HN7.out.1 (by rw [HB0.out]; simp)
      refine ⟨(RW.below HQB.out).trans (RW.set (.inl HN7.out.2)), ?_⟩
      show IB _ _ _ (pre ++ [_]).length _ ∧ (pre ++ [_]).length ≤ _
      rw [List.length_append]
      exact ⟨h, hlt⟩
  case done =>
    rintro D xs A hD hS ⟨hI, _⟩ hK
    have hxl : xs.length = sl.length := by have h := congrArg List.length hS; simpa using h
    rw [hxl] at hI
    have R0 := rest D sl.length A hD (.inr rfl) (Nat.le_refl _) hI hK
    clear rest hK0
    gi_wp2
    exact R0
  case stop =>
    rintro D c pre A hD hSp ⟨rfl, j, hj, hjl, hI⟩ hK
    have R0 := rest D j A hD (.inl hj) hjl hI hK
    clear rest hK0
    gi_wp2
    exact R0
end Go.Proofs.YtooojhlndlebdaaRRRDoorRRRR.R
