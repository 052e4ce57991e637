/- DratForeign: the law's walk. No conditions. -/
import Derived.Test.YtooojhlndlebdaaRRRDoorRRRRForeignQ
set_option linter.unusedVariables false
set_option linter.unusedSimpArgs false
namespace Go.Proofs.YtooojhlndlebdaaRRRDoorRRRR.R
open Go.RowKit Go.Lib Go.Proofs.YtooojhlndlebdaaRRRDoorRRRRW.PrintWords Go.Proofs.YtooojhlndlebdaaRRRDoorRRRRW.PrintLast Go.Proofs.YtooojhlndlebdaaRRRDoorRRRRW.PrintMore
open Go.Proofs.YtooojhlndlebdaaRRRDoorRRRR.Q (KeepC KC RW SeqR postR wpIn_rangeR)
attribute [local go_sem] Oper.semAt_some wide_fn
theorem Bx.on {g t : Nat} {v : Value} {A B : World} (h : Bx A g t v) (q : Below A.heap.size A B) : Bx B g t v := h.keep (KeepC.below (N := 0) q)
theorem open_frame {F : Fence} {n : Nat} {P : Program} {c : Code} {Q : Exit → Act → World → Prop} {ts : Array Value} {ds : List Deferred} {w : World} (h : ∀ T0, ts = T0 → c.wpIn F n P Q { tmps := T0, defers := ds } w) : c.wpIn F n P Q { tmps := ts, defers := ds } w := h ts rfl
/-- The boxes lie. -/
structure B0 (w0 : World) (Bs : List (Nat × Nat × Value)) (W : World) : Prop where
  below : Below w0.heap.size w0 W
  boxes : ∀ x ∈ Bs, Bx W x.1 x.2.1 x.2.2
theorem B0.on {w0 : World} {Bs : List (Nat × Nat × Value)} {A B : World} (h : B0 w0 Bs A) (q : Below A.heap.size A B) : B0 w0 Bs B :=
  ⟨below_keep (Nat.le_refl _) (Nat.le_refl _) h.below (KeepC.below q), fun x hx => (h.boxes x hx).on q⟩
theorem B0.drewN {w0 : World} {Bs : List (Nat × Nat × Value)} {A : World} (h : B0 w0 Bs A) (m : Nat) : B0 w0 Bs (A.drewN m) := h.on (pw_below_drewN (Below.refl _ _) m)
theorem ret_true {W : World} {b : Nat} {ts : Array Value} {v : Value} (hp : ts.getD 6 undef = .pointer (some ⟨b, 0, none⟩)) (h : W.heap[b]? = some (.cells #[v] 4 (0, 0))) (hv : v = .bool true) : (results Tryd.f10 ts).run Tryd.prog (W) = .ok (.bool true) W := by
  subst hv
  have hc : W.cell? ⟨b, 0, none⟩ = some (.bool true) := (blk_cell h 0).trans rfl
  rw [Array.getD_eq_getD_getElem?] at hp
  simp [results, Tryd.results10, go_sem, hc, hp]
set_option maxHeartbeats 16000000 in
set_option maxRecDepth 100000 in
theorem foreign_law (A0 : Option Addr) (c0 : Nat) (l0 : List S33) (A1 : Option Addr) (c1 : Nat) (l1 : List S33) (n : Int) (w0 : World) (hr0 : Kd.C k33 w0 A0 l0.length l0) (hc0 : l0.length ≤ c0) (hr1 : Kd.C k33 w0 A1 l1.length l1) (hc1 : l1.length ≤ c1) (hE : Env w0) (hbk : bulkS l0 + bulkS l1 ≤ 1048576) :
    Calls Tryd.prog 10 #[.slice A0 l0.length c0, .slice A1 l1.length c1, .int .i64 n] w0 fun e w' => e = .returned (.bool true) ∧ Below w0.heap.size w0 w' := by
  obtain ⟨K, hK⟩ : ∃ K : Nat, 10000000000000 < K := ⟨10000000000001, by omega⟩
  have hla := bulkS_len l0
  have hlb := bulkS_len l1
  have hma : ∀ s ∈ l0, s.f1.length ≤ 1048576 := fun s hs => by have := bulkS_mem hs; omega
  have hmb : ∀ s ∈ l1, s.f1.length ≤ 1048576 := fun s hs => by have := bulkS_mem hs; omega
  obtain ⟨W1, hW1⟩ : ∃ W1, (w0.alloc (.cells #[.slice A0 l0.length c0] 22)).alloc (.cells #[.bool false] 4) = W1 := ⟨_, rfl⟩
  have hb1 : Below w0.heap.size w0 W1 := by rw [← hW1]; exact ((Below.refl _ w0).alloc (Nat.le_refl _) _).alloc (by simp) _
  have hx3 : Bx W1 w0.heap.size 22 (.slice A0 l0.length c0) := by rw [← hW1]; exact blk_alloc (blk_new w0 _) _
  have hx6 : Bx W1 (w0.heap.size + 1) 4 (.bool false) := by
    rw [← hW1]
    have := blk_new (w0.alloc (.cells #[.slice A0 l0.length c0] 22)) (.cells #[.bool false] 4)
    rw [World.size_alloc] at this
    exact this
  have hs0 := fun (W : World) (hb : Below w0.heap.size w0 W) => (callsIn_wide (n := 2)).2 (depotlaw09_sound.calls K A0 c0 l0 _ W (C33_below hr0 hb) hc0 (soundL_is l0 hma (by omega) _ (by omega)))
  have hs1 := fun (W : World) (hb : Below w0.heap.size w0 W) => (callsIn_wide (n := 2)).2 (depotlaw09_sound.calls K A1 c1 l1 _ W (C33_below hr1 hb) hc1 (soundL_is l1 hmb (by omega) _ (by omega)))
  have HS0 := Aside0.mk hs0
  have HS1 := Aside0.mk hs1
  have HR0 := Aside0.mk hr0
  have HR1 := Aside0.mk hr1
  have HC0 := Aside0.mk hc0
  have HC1 := Aside0.mk hc1
  have HE := Aside0.mk hE
  have HMA := Aside0.mk hma
  have HMB := Aside0.mk hmb
  have HB1 := Aside0.mk hb1
  have HX3 := Aside0.mk hx3
  have HX6 := Aside0.mk hx6
  have HBK := Aside0.mk hbk
  have HKK := Aside0.mk hK
  have k3 := hx3.cell
  have k6 := hx6.cell
  have f6 := blk_frozen hx6 0
  obtain ⟨Bs, hBs⟩ : ∃ Bs : List (Nat × Nat × Value), Bs = [(w0.heap.size, 22, .slice A0 l0.length c0), (w0.heap.size + 1, 4, .bool false)] := ⟨_, rfl⟩
  have HBS := Aside0.mk hBs
  have hbx : B0 w0 Bs W1 := ⟨hb1, fun x hx => by
    rw [hBs] at hx
    simp only [List.mem_cons, List.not_mem_nil, or_false] at hx
    rcases hx with rfl | rfl
    · exact hx3
    · exact hx6⟩
  have HBX := Aside0.mk hbx
  have hg3 := fun (W : World) (h : B0 w0 Bs W) => (h.boxes (w0.heap.size, 22, .slice A0 l0.length c0) (by rw [hBs]; simp)).cell
  have hg6 := fun (W : World) (h : B0 w0 Bs W) => h.boxes (w0.heap.size + 1, 4, .bool false) (by rw [hBs]; simp)
  have HG3 := Aside0.mk hg3
  have HG6 := Aside0.mk hg6
  have hcp0 := fun (W : World) (hb : Below w0.heap.size w0 W) => (callsIn_wide (n := 2)).2 (depotref00_CopySteps.calls K A0 c0 l0 _ W (C33_below hr0 hb) hc0 (copySteps_is l0 1048576 hma (by omega) (by omega) K (by omega)))
  have hcp1 := fun (W : World) (hb : Below w0.heap.size w0 W) => (callsIn_wide (n := 2)).2 (depotref00_CopySteps.calls K A1 c1 l1 _ W (C33_below hr1 hb) hc1 (copySteps_is l1 1048576 hmb (by omega) (by omega) K (by omega)))
  have HCP0 := Aside0.mk hcp0
  have HCP1 := Aside0.mk hcp1
  clear hbx hg3 hg6 hcp0 hcp1 hBs
  clear hs0 hs1 hr0 hr1 hc0 hc1 hE hma hmb hb1 hx3 hx6 hbk hK hla hlb
  refine (callsIn_wide (n := 3)).1 ?_
  refine callsIn_of_wp_marks Tryd.func10 rfl trivial ?_ rfl
  simp only [Tryd.ntmps10, List.size_toArray, List.length_cons, List.length_nil, Nat.reduceAdd, Nat.reduceSub, Array.replicate_succ, Array.replicate_zero, List.push_toArray, List.append_toArray, List.nil_append, List.cons_append]
  gi_wp2
  refine (HS0.out W1 HB1.out).mono ?_
  rintro e w2 ⟨rfl, ⟨m2, rfl⟩⟩
  cases ha : l0.all soundS with
  | false =>
    gi_wp2
    exact ⟨.bool true, ret_true rfl (blk_set (HG6.out _ (HBX.out.drewN m2)) 0 _) rfl, rfl, ((HBX.out.drewN m2).below).setCell (by show w0.heap.size ≤ w0.heap.size + 1; omega) _⟩
  | true =>
    gi_wp2
    refine (HS1.out _ (HBX.out.drewN m2).below).mono ?_
    rintro e w3 ⟨rfl, ⟨m3, rfl⟩⟩
    cases hb : l1.all soundS with
    | false =>
      gi_wp2
      exact ⟨.bool true, ret_true rfl (blk_set (HG6.out _ (HBX.out.drewN (m2 + m3))) 0 _) rfl, rfl, ((HBX.out.drewN (m2 + m3)).below).setCell (by show w0.heap.size ≤ w0.heap.size + 1; omega) _⟩
    | true =>
      gi_wp2
      obtain ⟨W2, hW2⟩ : ∃ W2, W1.drewN (m2 + m3) = W2 := ⟨_, rfl⟩
      have HB2 := Aside0.mk (show B0 w0 Bs W2 by rw [← hW2]; exact HBX.out.drewN (m2 + m3))
      rw [hW2]
      clear hW2 hW1 k3 k6 f6
      refine (HCP0.out W2 HB2.out.below).mono ?_
      rintro e W3 ⟨v, rfl, hS, hb3⟩
      obtain ⟨Aa, ca, rfl, hca, hCa⟩ := Kd.S_reads hS
      have HB3 := Aside0.mk (HB2.out.on hb3)
      have hw := (callsIn_wide (n := 2)).2 (drat_Write.calls Aa ca l0 _ _ W3 hCa hca (HE.out.below HB3.out.below) ((write_is l0 (by have := HBK.out; omega)).trans (congrArg some (dratR_yes ha))))
      have HW := Aside0.mk hw
      clear hw hS hb3 hca hCa
      have k3 := HG3.out _ HB3.out
      gi_wp2
      refine HW.out.mono ?_
      rintro e W4 ⟨rfl, hb4⟩
      have HB4 := Aside0.mk (HB3.out.on hb4)
      clear hb4 k3 HW
      gi_wp2
      refine (HCP1.out W4 HB4.out.below).mono ?_
      rintro e W5 ⟨v, rfl, hS, hb5⟩
      obtain ⟨Ab, cb, rfl, hcb, hCb⟩ := Kd.S_reads hS
      have HB5 := Aside0.mk (HB4.out.on hb5)
      have hw := (callsIn_wide (n := 2)).2 (drat_Write.calls Ab cb l1 _ _ W5 hCb hcb (HE.out.below HB5.out.below) ((write_is l1 (by have := HBK.out; omega)).trans (congrArg some (dratR_yes hb))))
      have HW := Aside0.mk hw
      clear hw hS hb5 hcb hCb
      gi_wp2
      refine HW.out.mono ?_
      rintro e W6 ⟨rfl, hb6⟩
      have HB6 := Aside0.mk (HB5.out.on hb6)
      clear hb6 HW
      have hz0 : (mkB (stepsT l0)).size ≤ 23068672 := by
        rw [mkB_size]
        have := stepsT_bulk l0 (fun s hs => List.all_eq_true.1 ha s hs)
        have := HBK.out
        omega
      have hz1 : (mkB (stepsT l1)).size ≤ 23068672 := by
        rw [mkB_size]
        have := stepsT_bulk l1 (fun s hs => List.all_eq_true.1 hb s hs)
        have := HBK.out
        omega
      gi_wp2
      refine ((callsIn_wide (n := 2)).2 (foreign_calls n W6)).mono ?_
      rintro e W7 ⟨fw, hf, rfl, hb7⟩
      have HB7 := Aside0.mk (HB6.out.on hb7)
      obtain ⟨hf1, hf2, hf3, hf4⟩ := fw_ok fw hf
      have hz2 : (mkB fw).size ≤ 20 := by rw [mkB_size]; exact hf3
      obtain ⟨T, hT⟩ : ∃ T, mkB (stepsT l0 ++ 49 :: 32 :: (fw ++ 32 :: 48 :: 10 :: stepsT l1)) = T := ⟨_, rfl⟩
      have hrd : readF T = (⟨l0, true, false, [1]⟩, l0.length + 1) := by rw [← hT]; exact read_foreign l0 (fun s hs => List.all_eq_true.1 ha s hs) fw hf1 hf2 hf4 _
      have hts : T.size ≤ 4294967280 := by
        rw [← hT, mkB_size]
        rw [mkB_size] at hz0 hz1
        simp only [List.length_append, List.length_cons]
        omega
      have hrf : drat_Read.f T = some ([], 90, (l0.length : Int) + 1) := by
        unfold drat_Read.f
        rw [if_pos hts, hrd]
        simp
      have heT : (((mkB (stepsT l0) ++ ⟨#[49, 32]⟩) ++ mkB fw) ++ ⟨#[32, 48, 10]⟩) ++ mkB (stepsT l1) = T := by
        rw [← hT]
        show (((mkB (stepsT l0) ++ mkB [49, 32]) ++ mkB fw) ++ mkB [32, 48, 10]) ++ mkB (stepsT l1) = _
        rw [mkB_append, mkB_append, mkB_append, mkB_append]
        simp
      have HRD := Aside0.mk hrd
      have HTS := Aside0.mk hts
      have HRF := Aside0.mk hrf
      clear hf hf1 hf2 hf3 hf4 hb7 hT hrd hts hrf
      gi_wp2
      refine ((callsIn_wide (n := 2)).2 (drat_Read.calls T _ _ _ W7 (HE.out.below HB7.out.below) HRF.out)).mono ?_
      rintro e W8 ⟨v, rfl, hS, hb8⟩
      obtain ⟨Ar, cr, ev, _, _⟩ := Kd.S_reads hS
      rw [List.length_nil] at ev
      subst ev
      have hl5 : (l0.length : Int) + 1 ≤ 2000000 := by have := HBK.out; have := bulkS_len l0; omega
      have HB8 := Aside0.mk (HB7.out.on hb8)
      clear hS hb8 heT hz0 hz1 hz2
      have k3 := HG3.out _ HB8.out
      gi_wp2
      refine ((callsIn_wide (n := 2)).2 (steps_calls T W8)).mono ?_
      rintro e W9 ⟨rfl, hW9⟩
      have hb9 : Below W8.heap.size W8 W9 := by rw [hW9]; exact (Below.refl _ W8).alloc (Nat.le_refl _) _
      have hsz9 : W9.heap.size = W8.heap.size + 1 := by rw [hW9]; simp
      have hg9 : Bx W9 W8.heap.size 9 (.string T) := by rw [hW9]; exact blk_new W8 _
      have HB9 := Aside0.mk (HB8.out.on hb9)
      have HG9 := Aside0.mk hg9
      have HZ9 := Aside0.mk hsz9
      clear hW9 hb9 hg9 k3 hsz9
      have hqf := fun w => eql_func (.func 33) #[] #[.pointer (some ⟨W8.heap.size, 0, none⟩)] w
      gi_wp2
      obtain ⟨W, hW⟩ : ∃ W, W9.alloc (.cells #[.int .i64 0] 3) = W := ⟨_, rfl⟩
      have hbW : Below W9.heap.size W9 W := by rw [← hW]; exact (Below.refl _ W9).alloc (Nat.le_refl _) _
      have hszW : W.heap.size = W9.heap.size + 1 := by rw [← hW]; simp
      have hI0 : IB w0 Bs W9.heap.size 0 W := ⟨(HB9.out.on hbW).below, (HB9.out.on hbW).boxes, by rw [← hW]; exact blk_new W9 _⟩
      have hseq := steps_seq T HTS.out 2 W8.heap.size W (HG9.out.on hbW) (HE.out.below hI0.below)
      rw [HRD.out] at hseq
      rw [hW]
      have hwn : w0.heap.size ≤ W9.heap.size := HB9.out.below.size
      clear hW hqf
      have HSQ := Aside0.mk hseq
      have HI0 := Aside0.mk hI0
      have HZW := Aside0.mk hszW
      have HWN := Aside0.mk hwn
      clear hseq hI0 hszW hwn hbW
      refine open_frame fun T0 hT0 => ?_
      have HT0 := Aside0.mk hT0
      clear hT0
      refine wpIn_rangeR rfl (by decide) (gf := 33) (lb := #[.pointer (some ⟨W8.heap.size, 0, none⟩)]) (by show T0.getD 76 undef = _; rw [← HT0.out]; rfl) trivial (enters_of Tryd.func33 (by kernel_rfl) rfl) HSQ.out (fun _ => rfl)
        (fun pre W => IB w0 Bs W9.heap.size pre.length W)
        (fun _ _ _ => False)
        (fun pre x a' B => ∃ bx, a' = { tmps := (T0.setIfInBounds 77 (.agg #[.bool x.1.f0, x.2])).setIfInBounds 17 (.pointer (some ⟨bx, 0, none⟩)), defers := [] } ∧ W.heap.size ≤ bx ∧ Bv B bx x.1 x.2 ∧ RdS l0 W.heap.size pre x B)
        ?hI (fun _ _ _ _ h _ => h) ?hAx HI0.out ?assign ?body ?done ?stop
      case hI => exact fun s A B h k => h.keep (by have := HI0.out.below.size; omega) k
      case hAx => exact fun pre x a' A B ⟨bx, h1, h2, h3, h4⟩ k => ⟨bx, h1, h2, h3.keep k, h4.1, RI_keep h4.2 k⟩
      case assign =>
        rintro l pre ⟨x, xv⟩ A K hN hi ⟨hge, hR⟩ hK
        obtain ⟨Av, cv, ev⟩ := Kd.R_slice hR
        dsimp only at ev
        subst ev
        have HKQ := Aside0.mk hK
        have HR := Aside0.mk hR
        have HI := Aside0.mk hi
        clear hR hi hK
        rw [fold_one]
        dsimp only
        rw [← HT0.out]
        simp only [List.setIfInBounds_toArray, List.set]
        gi_wp2
        have hbw : Below A.heap.size A (A.alloc (.cells #[.bool x.f0, .slice Av x.f1.length cv] 33)) := (Below.refl _ A).alloc (Nat.le_refl _) _
        refine HKQ.out _ _ (RW.below hbw) (HI.out.on hbw) ⟨A.heap.size, ?_, hN, World.alloc_heap_new _ _, hge, Kd.R_below HR.out hbw⟩
        rw [← HT0.out]
        rfl
      case body =>
        rintro l pre ⟨x, xv⟩ a' A hN hi ⟨bx, rfl, hbx, hv, hge, hR⟩
        obtain ⟨Av, cv, ev⟩ := Kd.R_slice hR
        dsimp only at ev
        subst ev
        dsimp only at hv hge hR
        have hlt : pre.length < l0.length := (List.getElem?_eq_some_iff.1 hge).1
        have hrd : rd_T33 l0 ((pre.length : Nat) : Int) = x := by rw [rdT_natr hlt]; exact (List.getElem?_eq_some_iff.1 hge).2
        obtain ⟨ad, A2, c2, eA, y0, y1, hl1, hc1⟩ := at_T33 (C33_below HR0.out hi.below) ((pre.length : Nat) : Int) (by omega) (by omega)
        rw [hrd] at y0 y1 hl1 hc1
        rw [Int.toNat_natCast] at y0 y1
        have z0 : A.cell? ⟨bx, 0, none⟩ = some (.bool x.f0) := (blk_cell hv 0).trans rfl
        have z1 : A.cell? ⟨bx, 1, none⟩ = some (.slice Av x.f1.length cv) := (blk_cell hv 1).trans rfl
        have k3 := HG3.out _ ⟨hi.below, hi.boxes⟩
        have k5 := hi.num.cell
        have f5 := blk_frozen hi.num 0
        have hlm : x.f1.length ≤ 1048576 := HMA.out x (List.mem_of_getElem? hge)
        have hR2 := Kd.R_reads' hR
        have hS := fun q => CallsIn.inRound (n := 0) l (callsIn_wide.2 (depotref00_SameInts.calls (x.f1.length + 1) Av cv x.f1 A2 c2 x.f1 true (A.drewN q) (Kd.C_drewN hR2.2.2 q) hR2.2.1 (Kd.C_drewN hc1 q) hl1 (sameInts_self _ (by omega) _ (by omega))))
        have HS := Aside0.mk hS
        have HI := Aside0.mk hi
        have hmx : l0.length ≤ 1048576 := by have := HBK.out; have := bulkS_len l0; omega
        have hd0 : decide (l0.length ≤ pre.length) = false := decide_eq_false (by omega)
        have hd1 : decide ((l0.length : Int) ≤ (pre.length : Int)) = false := decide_eq_false (by omega)
        have hd2 : (x.f0 != x.f0) = false := bne_self_eq_false _
        clear hS hR hi hv hge hR2 hc1 hrd hlm
        subst eA
        dsimp only
        rw [← HT0.out]
        simp only [List.setIfInBounds_toArray, List.set]
        gi_wp2
        refine Go.Proofs.YtooojhlndlebdaaRRRDoorRRRR.Q.region_quietR (by kernel_rfl) (by kernel_rfl) (by kernel_rfl) ?_
        repeat (gi_big_quiet_step (first | (gi_at_call 23; exact CallsIn.quiet_of ((HS.out _).mono fun e w' h => ⟨h.1, h.2.out⟩))))
        refine wpQuietIn_nil ?_
        intro _ hw'
        obtain ⟨nq, hw''⟩ := hw'
        subst hw''
        gi_wp2
        have hqb : Below A.heap.size A (A.drewN nq) := pw_below_drewN (Below.refl _ _) nq
        have h := (HI.out.on hqb).num_set (k' := pre.length + 1) HWN.out (by rw [HBS.out]; simp)
        refine ⟨(RW.below hqb).trans (RW.set (.inl (by show W9.heap.size < W.heap.size; have := HZW.out; omega))), ?_⟩
        show IB _ _ _ (pre ++ [_]).length _
        rw [List.length_append]
        exact h
      case done =>
        rintro D xs A hD hS hI hK
        have hxl : xs.length = l0.length := by have h := congrArg List.length hS; simpa using h
        rw [hxl] at hI
        have k3 := HG3.out _ ⟨hI.below, hI.boxes⟩
        have k6b := HG6.out _ ⟨hI.below, hI.boxes⟩
        have k6 := k6b.cell
        have k5 := hI.num.cell
        have f6 := blk_frozen k6b 0
        have HKD := Aside0.mk hK
        have HI := Aside0.mk hI
        have K6 := Aside0.mk k6b
        have hmx : l0.length ≤ 1048576 := by have := HBK.out; have := bulkS_len l0; omega
        clear hS hI hK k6b
        dsimp only
        rw [← HT0.out]
        gi_wp2
        have hlt6 := blk_lt (HG6.out _ HB9.out)
        have hzw := HZW.out
        have hK2 : (A.setCell ⟨w0.heap.size + 1, 0, none⟩ (.bool true)).heap[D]? = some (.deferred (some [])) := (Below.heap_setCell A _ _ D (by show D ≠ w0.heap.size + 1; omega)).trans HKD.out
        refine ⟨by simp, .inl ⟨_, _, rfl, run_takeDeferred hK2, ?_⟩⟩
        have hres : ((A.setCell ⟨w0.heap.size + 1, 0, none⟩ (.bool true)).putObj D (.deferred none)).heap[w0.heap.size + 1]? = some (.cells #[.bool true] 4 (0, 0)) :=
          (World.putObj_heap_other (by omega)).trans (blk_set K6.out 0 _)
        exact ⟨.bool true, ret_true rfl hres rfl, rfl, below_keep (N := W.heap.size) (Nat.le_refl _) (by omega) (HI.out.below.setCell (by show w0.heap.size ≤ w0.heap.size + 1; omega) _) (KeepC.put hK2 rfl hD _)⟩
      case stop => exact fun _ _ _ _ _ _ h _ => h.elim
end Go.Proofs.YtooojhlndlebdaaRRRDoorRRRR.R
