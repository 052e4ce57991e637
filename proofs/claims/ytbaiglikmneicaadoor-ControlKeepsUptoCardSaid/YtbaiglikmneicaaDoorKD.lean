/- ControlKeeps: the values of all that it calls. Condition: stanzas of bulk at most 1048576. depotlaw21.readApart: true. Condition: texts of at most a million bytes. depotlaw21.ControlKeeps: true. Conditions: those of its parts. -/
import Derived.Test.YtbaiglikmneicaaDoorKB
import Derived.Test.YtbaiglikmneicaaDoorKC
import Derived.Test.YtbaiglikmneicaaDoorRefK
import Derived.Test.YtbaiglikmneicaaDoorPureGets
import Derived.Test.YtbaiglikmneicaaDoorPureReadsC
set_option linter.unusedVariables false
set_option linter.unusedSimpArgs false
namespace Go.Proofs.YtbaiglikmneicaaDoor.KP
open Go Go.RowKit Go.Proofs.YtbaiglikmneicaaDoor.P
open Go.Proofs.YtbaiglikmneicaaDoor.R (pieces)

theorem refwrite_is3 (x : List S41) (M : Nat) (hM : M ≤ 100000000) (hm : massS x ≤ M) (k : Nat) (hk : x.length * (M * (M + 4) + 5) + 5 * M + 8 < k) : depotref21_Write.f k x = some (writeC x) := by
  have ha := mass_all hm
  have h0 : M ≤ M * (M + 4) := Nat.le_mul_of_pos_right _ (by omega)
  have h1 : x.length * (M + 3) ≤ x.length * (M * (M + 4) + 5) := Nat.mul_le_mul_left _ (by omega)
  unfold depotref21_Write.f writeC
  rw [refformed_is x M (by omega) ha.1 ha.2 k (by omega)]
  simp only [Option.bind_some]
  cases hf : formedC x with
  | false => rfl
  | true =>
    rw [if_pos rfl, if_pos rfl]
    have hW := stanzasW_len2 x 0
    have hs : ∀ s ∈ x, ∀ f ∈ s.f1, smallF M f ∧ piecesOk (pieces f.f1.data.toList) = true := fun s hs f hfm => by
      refine ⟨(ha.2 s hs).2 f hfm, ?_⟩
      have h2 := List.all_eq_true.1 hf s hs
      unfold stanzaOk at h2
      rw [Bool.and_eq_true] at h2
      have h3 := fieldsOk_all _ _ h2.2 f hfm
      unfold valueL at h3
      rw [Bool.and_eq_true] at h3
      exact h3.2
    exact refw_l0 x (by omega) M (by omega) (fun s hs => (ha.2 s hs).1) hs (stanzasW 0 x) (by omega) x.length 0 [] (Nat.zero_le _) (by omega) (by simp) k (by omega)
theorem massF_over : ∀ n : Nat, massF (List.replicate n ovK) = 6 * n
  | 0 => rfl
  | n + 1 => by
    have h := massF_over n
    have e : massF (List.replicate (n + 1) ovK) = 6 + massF (List.replicate n ovK) := rfl
    omega
theorem massF_len : ∀ fs : List S50, fs.length ≤ massF fs
  | [] => Nat.le_refl _
  | f :: fs => by
    have h := massF_len fs
    have e : massF (f :: fs) = (f.f0.size + f.f1.size + 1) + massF fs := rfl
    rw [List.length_cons]
    omega
theorem mass_over : ∀ l : List S41, massS (overK l) ≤ 6 * massS l
  | [] => Nat.le_refl _
  | s :: l => by
    have h := mass_over l
    have e1 : massS (s :: l) = (massF s.f1 + 1) + massS l := rfl
    have e2 : massS (overK (s :: l)) = (massF (List.replicate s.f1.length ovK) + 1) + massS (overK l) := rfl
    rw [massF_over] at e2
    have := massF_len s.f1
    omega
/-- What a list of stanzas comes to, at k rounds. -/
structure AtK (k : Nat) (x : List S41) (name : ByteArray) : Prop where
  write : control_Write.f x = some (writeC x)
  refwrite : depotref21_Write.f k x = some (writeC x)
  formed : control_Formed.f k x = some (formedC x)
  refformed : depotref21_Formed.f k x = some (formedC x)
  get : ∀ y ∈ x, ∃ r : ByteArray × Bool, control_Get.f k y.f0 y.f1 name = some r ∧ depotref21_Get.f k y.f0 y.f1 name = some r
theorem atK (x : List S41) (name : ByteArray) (M : Nat) (hM : M ≤ 10000000) (hm : massS x ≤ M) (hn : name.size ≤ M) (k : Nat) (hk : x.length * (M * (M + 4) + 5) + 5 * M + 8 < k) : AtK k x name := by
  have ha := mass_all hm
  have h0 : M ≤ M * (M + 4) := Nat.le_mul_of_pos_right _ (by omega)
  have h1 : x.length * (M + 3) ≤ x.length * (M * (M + 4) + 5) := Nat.mul_le_mul_left _ (by omega)
  refine ⟨write_is2 hm (by omega), refwrite_is3 x M (by omega) hm k hk, formed_is x M (by omega) ha.1 ha.2 k (by omega), refformed_is x M (by omega) ha.1 ha.2 k (by omega), fun y hy => ?_⟩
  have hy2 := ha.2 y hy
  obtain ⟨r, g1, g2⟩ := get_same y.f0 y.f1 name M (by omega) hn (fun f hf => (hy2.2 f hf).1) (by omega)
  exact ⟨r, g1 k (by omega), g2 k (by omega)⟩
theorem keeps_pure (l0 : List S41) (hb : massS l0 ≤ 1048576) : ∃ k, depotlaw21_few.f k l0 = some (fewL l0) ∧ (fewL l0).length ≤ 2000000 ∧ (∀ x ∈ fewL l0, x.f1.length ≤ 2000000) ∧ AtK k (fewL l0) ⟨#[97]⟩ ∧ AtK k (overK (fewL l0)) ⟨#[98]⟩ ∧ depotlaw21_kept.f k (fewL l0 ++ List.replicate 64 emptyK) (RsK (fewL l0)) (fewL l0) = some true := by
  have hm : massS (fewL l0) ≤ 1048576 := Nat.le_trans (few_mass l0) hb
  have hl := mass_all hb
  obtain ⟨x, hx⟩ : ∃ x, fewL l0 = x := ⟨_, rfl⟩
  rw [hx] at hm ⊢
  have ha := mass_all hm
  have hmo := mass_over x
  have hol := overK_len x
  obtain ⟨M, hM, hxM⟩ : ∃ M, M = 6291456 ∧ massS (overK x) ≤ M := ⟨_, rfl, by omega⟩
  obtain ⟨k, hk⟩ : ∃ k, l0.length + (x.length * (M * (M + 4) + 5) + 5 * M + 8) + (x.length * (M + 66) + 80) < k := ⟨_, Nat.lt_succ_self _⟩
  have h1 : depotlaw21_few.f k l0 = some x := by rw [← hx]; exact few_is l0 (by omega) k (by omega)
  have hxm : x.length * (2000000 + 66) ≤ x.length * (M + 66) := Nat.mul_le_mul_left _ (by omega)
  refine ⟨k, h1, by omega, fun y hy => by have := (ha.2 y hy).1; omega, atK x _ M (by omega) (by omega) (by show 1 ≤ M; omega) k (by omega), atK (overK x) _ M (by omega) hxM (by show 1 ≤ M; omega) k (by rw [hol]; omega), kept_is x 2000000 (by omega) (by omega) (fun y hy => by have := (ha.2 y hy).1; omega) k (by omega)⟩
end Go.Proofs.YtbaiglikmneicaaDoor.KP

set_option linter.unusedVariables false
set_option linter.unusedSimpArgs false
namespace Go.Proofs.YtbaiglikmneicaaDoor.KP
open Go Go.RowKit Go.Proofs.YtbaiglikmneicaaDoorW.PrintWords Go.Proofs.YtbaiglikmneicaaDoorW.PrintLast Go.Proofs.YtbaiglikmneicaaDoorW.PrintMore Go.Proofs.YtbaiglikmneicaaDoor.P

/-- Their blocks lie from lo on, below hi. -/
def rng (lo hi : Nat) (us : List Value) : Prop := ∀ u ∈ us, ∀ k, u.ownBlock = some k → lo ≤ k ∧ k < hi
theorem rng_append {lo hi : Nat} {us vs : List Value} (h1 : rng lo hi us) (h2 : rng lo hi vs) : rng lo hi (us ++ vs) := fun u hu => by
  rcases List.mem_append.1 hu with h | h
  · exact h1 u h
  · exact h2 u h
theorem rng_wide {lo hi lo' hi' : Nat} {us : List Value} (h : rng lo hi us) (h1 : lo' ≤ lo) (h2 : hi ≤ hi') : rng lo' hi' us := fun u hu k hk => by
  have := h u hu k hk
  omega
theorem apart_rng {es bs : List Value} {a b c d : Nat} (ha : apart es) (hb : apart bs) (h1 : rng a b es) (h2 : rng c d bs) (h : b ≤ c) : apart (es ++ bs) :=
  apart_append ha hb (fun v hv k hk => (h1 v hv k hk).2) (fun v hv k hk => by have := (h2 v hv k hk).1; omega)
theorem Op41.rngF {w : World} {lo hi : Nat} {v : Value} {l : List S41} {X : List Value} (h : Op41 w lo hi v l X) : rng lo hi (fieldsN X l.length) := fun u hu => (h.mem hu).2.2
theorem Op41.rngV {w : World} {lo hi : Nat} {v : Value} {l : List S41} {X : List Value} (h : Op41 w lo hi v l X) : rng lo hi [v] := fun u hu k hk => by
  rw [List.mem_singleton] at hu
  subst hu
  exact ⟨(own_lt h.row k hk).1, h.low k hk⟩
def fourX (Xa Xb Xc Xd : List Value) (j : Nat) : List Value := [Xa, Xb, Xc, Xd].getD j []
section
variable {W : World} {va vb vc vd : Value} {la lb lc ld : List S41} {Xa Xb Xc Xd : List Value} {a0 a1 b0 b1 c0 c1 d0 d1 : Nat}
theorem fieldsK_four (ha : Op41 W a0 a1 va la Xa) (hb : Op41 W b0 b1 vb lb Xb) (hc : Op41 W c0 c1 vc lc Xc) (hd : Op41 W d0 d1 vd ld Xd) :
    fieldsK (fourX Xa Xb Xc Xd) (lenAt [va, vb, vc, vd]) [va, vb, vc, vd].length = ((fieldsN Xa la.length ++ fieldsN Xb lb.length) ++ fieldsN Xc lc.length) ++ fieldsN Xd ld.length := by
  show ((([] ++ fieldsN Xa (lenV va)) ++ fieldsN Xb (lenV vb)) ++ fieldsN Xc (lenV vc)) ++ fieldsN Xd (lenV vd) = _
  rw [ha.len, hb.len, hc.len, hd.len, List.nil_append]
theorem four_cases {Q : Nat → Value → Prop} (h0 : Q 0 va) (h1 : Q 1 vb) (h2 : Q 2 vc) (h3 : Q 3 vd) : ∀ (j : Nat) (v : Value), [va, vb, vc, vd][j]? = some v → Q j v := by
  intro j v hv
  match j, hv with
  | 0, hv => injection hv with hv; subst hv; exact h0
  | 1, hv => injection hv with hv; subst hv; exact h1
  | 2, hv => injection hv with hv; subst hv; exact h2
  | 3, hv => injection hv with hv; subst hv; exact h3
  | j + 4, hv => simp at hv
theorem Op41.rowV (h : Op41 W a0 a1 va la Xa) : W.ownsRow 0 41 2 va (lenV va) Xa := by
  rw [h.len]
  exact own_low h.row (Nat.zero_le _)
theorem Op41.fieldAt (h : Op41 W a0 a1 va la Xa) : ∀ j, j < lenV va → ∃ A n c, Xa[j * 2 + 1]? = some (.slice A n c) := fun j hj => by
  rw [h.len] at hj
  obtain ⟨A, c, _, h1, _⟩ := h.fld j _ (List.getElem?_eq_getElem hj)
  exact ⟨A, _, c, h1⟩
theorem readApart_four (ha : Op41 W a0 a1 va la Xa) (hb : Op41 W b0 b1 vb lb Xb) (hc : Op41 W c0 c1 vc lc Xc) (hd : Op41 W d0 d1 vd ld Xd) (h1 : a1 ≤ b0) (h2 : b1 ≤ c0) (h3 : c1 ≤ d0) (hab : a0 ≤ b0) (hbc : b0 ≤ c0) (hcd : c0 ≤ d0) (ea : a1 ≤ d1) (eb : b1 ≤ d1) (ec : c1 ≤ d1) (hba : b0 ≤ b1) (hca : c0 ≤ c1)
    {M : Nat} (ma : la.length ≤ M) (mb : lb.length ≤ M) (mc : lc.length ≤ M) (md : ld.length ≤ M) (na : ∀ x ∈ la, x.f1.length ≤ M) (nb : ∀ x ∈ lb, x.f1.length ≤ M) (nc : ∀ x ∈ lc, x.f1.length ≤ M) (nd : ∀ x ∈ ld, x.f1.length ≤ M) (hM : M ≤ 100000000) :
    ∀ (V : Value) (bO : Nat) (W1 : World), W1.ownsRow bO 23 1 V [va, vb, vc, vd].length [va, vb, vc, vd] → Below W.heap.size W W1 →
    Calls Tryd.prog 46 #[V] W1 fun e w' => e = .returned (.bool true) ∧ Rest (((fieldsN Xa la.length ++ fieldsN Xb lb.length) ++ fieldsN Xc lc.length ++ fieldsN Xd ld.length) ++ [va, vb, vc, vd]) W1 w' ∧ rng a0 d1 (((fieldsN Xa la.length ++ fieldsN Xb lb.length) ++ fieldsN Xc lc.length ++ fieldsN Xd ld.length) ++ [va, vb, vc, vd]) := by
  intro V bO W1 hV hB
  have ga := ha.below hB
  have gb := hb.below hB
  have gc := hc.below hB
  have gd := hd.below hB
  have hK := fieldsK_four ga gb gc gd
  have r1 : rng a0 b1 (fieldsN Xa la.length ++ fieldsN Xb lb.length) := rng_append (rng_wide ga.rngF (Nat.le_refl _) (by omega)) (rng_wide gb.rngF hab (Nat.le_refl _))
  have r2 : rng a0 c1 ((fieldsN Xa la.length ++ fieldsN Xb lb.length) ++ fieldsN Xc lc.length) := rng_append (rng_wide r1 (Nat.le_refl _) (by omega)) (rng_wide gc.rngF (by omega) (Nat.le_refl _))
  have r3 : rng a0 d1 (((fieldsN Xa la.length ++ fieldsN Xb lb.length) ++ fieldsN Xc lc.length) ++ fieldsN Xd ld.length) := rng_append (rng_wide r2 (Nat.le_refl _) ec) (rng_wide gd.rngF (by omega) (Nat.le_refl _))
  have s1 : rng a0 b1 ([va] ++ [vb]) := rng_append (rng_wide ga.rngV (Nat.le_refl _) (by omega)) (rng_wide gb.rngV hab (Nat.le_refl _))
  have s2 : rng a0 c1 (([va] ++ [vb]) ++ [vc]) := rng_append (rng_wide s1 (Nat.le_refl _) (by omega)) (rng_wide gc.rngV (by omega) (Nat.le_refl _))
  have s3 : rng a0 d1 ((([va] ++ [vb]) ++ [vc]) ++ [vd]) := rng_append (rng_wide s2 (Nat.le_refl _) ec) (rng_wide gd.rngV (by omega) (Nat.le_refl _))
  have pv : apart [va, vb, vc, vd] := apart_rng (apart_rng (apart_rng (apart_one va) (apart_one vb) ga.rngV gb.rngV h1) (apart_one vc) s1 gc.rngV h2) (apart_one vd) s2 gd.rngV h3
  have pF : apart (((fieldsN Xa la.length ++ fieldsN Xb lb.length) ++ fieldsN Xc lc.length) ++ fieldsN Xd ld.length) :=
    apart_rng (apart_rng (apart_rng ga.sep gb.sep ga.rngF gb.rngF h1) gc.sep r1 gc.rngF h2) gd.sep r2 gd.rngF h3
  have hmem : ∀ u ∈ ((fieldsN Xa la.length ++ fieldsN Xb lb.length) ++ fieldsN Xc lc.length) ++ fieldsN Xd ld.length, (∃ xs, W1.ownsRow 0 50 2 u (lenV u) xs) ∧ lenV u ≤ 1000000000 := by
    intro u hu
    have key : ∀ {v : Value} {l : List S41} {X : List Value} {lo hi : Nat}, Op41 W1 lo hi v l X → (∀ x ∈ l, x.f1.length ≤ M) → u ∈ fieldsN X l.length → (∃ xs, W1.ownsRow 0 50 2 u (lenV u) xs) ∧ lenV u ≤ 1000000000 := fun g n hu => by
      obtain ⟨hr, ⟨x, hx, hl⟩, _⟩ := g.mem hu
      have := n x hx
      exact ⟨hr, by omega⟩
    rcases List.mem_append.1 hu with hu | hu
    · rcases List.mem_append.1 hu with hu | hu
      · rcases List.mem_append.1 hu with hu | hu
        · exact key ga na hu
        · exact key gb nb hu
      · exact key gc nc hu
    · exact key gd nd hu
  have hcall := apartPapers_calls V [va, vb, vc, vd] (fourX Xa Xb Xc Xd) bO W1 hV (four_cases ga.rowV gb.rowV gc.rowV gd.rowV)
    (fun k j hk hj => by
      match k, hk, hj with
      | 0, _, hj => exact ga.fieldAt j hj
      | 1, _, hj => exact gb.fieldAt j hj
      | 2, _, hj => exact gc.fieldAt j hj
      | 3, _, hj => exact gd.fieldAt j hj
      | k + 4, hk, _ => exact absurd hk (by simp))
    (fun j u hu => by
      rw [hK] at hu
      exact (hmem u (List.mem_of_getElem? hu)).1)
    pv (by rw [hK]; exact pF) (by show 4 ≤ 1000000000; decide)
    (fun v hv => by
      have : ∀ v ∈ [va, vb, vc, vd], lenV v ≤ M := by
        intro v hv
        simp only [List.mem_cons, List.not_mem_nil, or_false] at hv
        rcases hv with rfl | rfl | rfl | rfl
        · rw [ga.len]; exact ma
        · rw [gb.len]; exact mb
        · rw [gc.len]; exact mc
        · rw [gd.len]; exact md
      have := this v hv
      omega)
    (by rw [hK]; simp only [List.length_append, fieldsN_len]; omega)
    (fun v hv => by
      rw [hK] at hv
      exact (hmem v hv).2)
  rw [hK] at hcall
  exact hcall.mono fun e w' h => ⟨h.1, h.2, rng_append r3 s3⟩
end
theorem S_read {w W : World} {base c : Nat} {ok : Nat → Prop} {A : Option Addr} {xs : List S41} (h : Kd.S k41 41 w base ok (.slice A xs.length c) xs) (hb : Below w.heap.size w W) : Kd.C k41 W A xs.length xs ∧ xs.length ≤ c :=
  ⟨Kd.C_below (Kd.S_reads' h).2.2 hb, (Kd.S_reads' h).2.1⟩
theorem below_tr {A B C : World} (h1 : Below A.heap.size A B) (h2 : Below B.heap.size B C) : Below A.heap.size A C := h1.trans (h2.mono h1.size)
set_option maxHeartbeats 16000000 in
set_option maxRecDepth 100000 in
theorem readApart_calls (s t : ByteArray) (w0 : World) (hE : Env w0) (hs : s.size ≤ 1048576) (ht : t.size ≤ 1048576) :
    Calls Tryd.prog 26 #[.string s, .string t] w0 fun e w' => e = .returned (.bool true) ∧ Below w0.heap.size w0 w' := by
  obtain ⟨q1, q2⟩ := read_len s
  obtain ⟨q3, q4⟩ := read_len t
  obtain ⟨⟨l, e1, n1⟩, hr⟩ : ∃ r, readC s = r := ⟨_, rfl⟩
  obtain ⟨⟨m, e2, n2⟩, hq⟩ : ∃ r, readC t = r := ⟨_, rfl⟩
  have ra : control_Read.f s = some (l, e1, n1) := by unfold control_Read.f; rw [if_pos (by omega), hr]
  have rb : depotref21_Read.f s = some (l, e1, n1) := by unfold depotref21_Read.f; rw [if_pos (by omega), hr]
  have rc : control_Read.f t = some (m, e2, n2) := by unfold control_Read.f; rw [if_pos (by omega), hq]
  have rd : depotref21_Read.f t = some (m, e2, n2) := by unfold depotref21_Read.f; rw [if_pos (by omega), hq]
  rw [hr] at q1 q2
  rw [hq] at q3 q4
  simp only at q1 q2 q3 q4
  obtain ⟨k, hk1, hk2⟩ : ∃ k, l.length * (1048577 + 4) < k ∧ m.length * (1048577 + 4) < k := ⟨l.length * (1048577 + 4) + m.length * (1048577 + 4) + 1, by omega, by omega⟩
  have sl := same_is l l true 1048577 (by decide) rfl (fun _ => rfl) (by omega) (fun x hx => by have := q1 x hx; omega) k hk1
  have sm := same_is m m true 1048577 (by decide) rfl (fun _ => rfl) (by omega) (fun x hx => by have := q3 x hx; omega) k hk2
  have Q1 := Aside0.mk q1
  have Q2 := Aside0.mk q2
  have Q3 := Aside0.mk q3
  have Q4 := Aside0.mk q4
  have HE := Aside0.mk hE
  have RA := Aside0.mk ra
  have RB := Aside0.mk rb
  have RC := Aside0.mk rc
  have RD := Aside0.mk rd
  have SL := Aside0.mk sl
  have SM := Aside0.mk sm
  clear q1 q2 q3 q4 hE ra rb rc rd sl sm hk1 hk2 hr hq
  go_enter Tryd.func26, Tryd.ntmps26
  go_wp2_with fail
  refine (control_Read.calls s l e1 n1 w0 HE.out RA.out).mono ?_
  rintro e wa ⟨va, rfl, hSa, hBa⟩
  obtain ⟨Xa, hOa⟩ := S_open41 hSa
  obtain ⟨Aa, ca, rfl⟩ := Kd.S_slice hSa
  have HSa := Aside0.mk hSa
  have HOa := Aside0.mk hOa
  have HBa := Aside0.mk hBa
  have HEa := Aside0.mk (HE.out.below hBa)
  clear hSa hOa hBa
  go_wp2_with fail
  refine (control_Read.calls s l e1 n1 wa HEa.out RA.out).mono ?_
  rintro e wb ⟨vb, rfl, hSb, hBb⟩
  obtain ⟨Xb, hOb⟩ := S_open41 hSb
  obtain ⟨Ab, cb, rfl⟩ := Kd.S_slice hSb
  have HSb := Aside0.mk hSb
  have HOb := Aside0.mk hOb
  have HBb := Aside0.mk hBb
  have HEb := Aside0.mk (HEa.out.below hBb)
  clear hSb hOb hBb
  go_wp2_with fail
  refine (control_Read.calls t m e2 n2 wb HEb.out RC.out).mono ?_
  rintro e wc ⟨vc, rfl, hSc, hBc⟩
  obtain ⟨Xc, hOc⟩ := S_open41 hSc
  obtain ⟨Ac, cc, rfl⟩ := Kd.S_slice hSc
  have HSc := Aside0.mk hSc
  have HOc := Aside0.mk hOc
  have HBc := Aside0.mk hBc
  have HEc := Aside0.mk (HEb.out.below hBc)
  clear hSc hOc hBc
  go_wp2_with fail
  refine (control_Read.calls s l e1 n1 wc HEc.out RA.out).mono ?_
  rintro e wd ⟨vd, rfl, hSd, hBd⟩
  obtain ⟨Xd, hOd⟩ := S_open41 hSd
  obtain ⟨Ad, cd, rfl⟩ := Kd.S_slice hSd
  have HSd := Aside0.mk hSd
  have HOd := Aside0.mk hOd
  have HBd := Aside0.mk hBd
  have HEd := Aside0.mk (HEc.out.below hBd)
  clear hSd hOd hBd
  go_wp2_with fail
  refine (depotref21_Read.calls s l e1 n1 wd RB.out).mono ?_
  rintro e we ⟨ve, rfl, hSe, hBe⟩
  obtain ⟨Ae, ce, rfl⟩ := Kd.S_slice hSe
  have HSe := Aside0.mk (Kd.S_bound hSe)
  have HBe := Aside0.mk hBe
  have HEe := Aside0.mk (HEd.out.below hBe)
  clear hSe hBe
  go_wp2_with fail
  refine (depotref21_Read.calls t m e2 n2 we RD.out).mono ?_
  rintro e wf ⟨vf, rfl, hSf, hBf⟩
  obtain ⟨Af, cf, rfl⟩ := Kd.S_slice hSf
  have HSf := Aside0.mk hSf
  have HBf := Aside0.mk hBf
  have HEf := Aside0.mk (HEe.out.below hBf)
  clear hSf hBf
  go_wp2_with fail
  have HF1 := Aside0.mk (below_tr HBe.out HBf.out)
  have HD1 := Aside0.mk (below_tr HBd.out HF1.out)
  have HC1 := Aside0.mk (below_tr HBc.out HD1.out)
  have HB1 := Aside0.mk (below_tr HBb.out HC1.out)
  have CA := Aside0.mk (fun (W : World) (h : Below wf.heap.size wf W) => S_read HSa.out (below_tr HB1.out h))
  have CB := Aside0.mk (fun (W : World) (h : Below wf.heap.size wf W) => S_read HSb.out (below_tr HC1.out h))
  have CC := Aside0.mk (fun (W : World) (h : Below wf.heap.size wf W) => S_read HSc.out (below_tr HD1.out h))
  have CD := Aside0.mk (fun (W : World) (h : Below wf.heap.size wf W) => S_read HSd.out (below_tr HF1.out h))
  have CE := Aside0.mk (fun (W : World) (h : Below wf.heap.size wf W) => S_read HSe.out (below_tr HBf.out h))
  have CF := Aside0.mk (fun (W : World) (h : Below wf.heap.size wf W) => S_read HSf.out h)
  have ca0 := CA.out wf (Below.refl _ _)
  have ce0 := CE.out wf (Below.refl _ _)
  have H0 := Aside0.mk (depotlaw21_same.calls k Aa ca l Ae ce l true true wf ca0.1 ca0.2 ce0.1 ce0.2 SL.out)
  clear ca0 ce0
  refine H0.out.mono ?_
  rintro e g1 ⟨rfl, hd1⟩
  have G1 := Aside0.mk hd1.below
  have cb0 := CB.out g1 G1.out
  have ce0 := CE.out g1 G1.out
  have H1 := Aside0.mk (depotlaw21_same.calls k Ab cb l Ae ce l true true g1 cb0.1 cb0.2 ce0.1 ce0.2 SL.out)
  clear cb0 ce0 hd1 H0
  go_wp2_with fail
  refine H1.out.mono ?_
  rintro e g2 ⟨rfl, hd2⟩
  have G2 := Aside0.mk (below_tr G1.out hd2.below)
  have cc0 := CC.out g2 G2.out
  have cf0 := CF.out g2 G2.out
  have H2 := Aside0.mk (depotlaw21_same.calls k Ac cc m Af cf m true true g2 cc0.1 cc0.2 cf0.1 cf0.2 SM.out)
  clear cc0 cf0 hd2 H1 G1
  go_wp2_with fail
  refine H2.out.mono ?_
  rintro e g3 ⟨rfl, hd3⟩
  have G3 := Aside0.mk (below_tr G2.out hd3.below)
  have cd0 := CD.out g3 G3.out
  have ce0 := CE.out g3 G3.out
  have H3 := Aside0.mk (depotlaw21_same.calls k Ad cd l Ae ce l true true g3 cd0.1 cd0.2 ce0.1 ce0.2 SL.out)
  clear cd0 ce0 hd3 H2 G2
  go_wp2_with fail
  refine H3.out.mono ?_
  rintro e g4 ⟨rfl, hd4⟩
  have G4 := Aside0.mk (below_tr G3.out hd4.below)
  clear hd4 H3 G3
  go_wp2_with fail
  have hW1 : Below wf.heap.size wf (g4.alloc (.cells #[.slice Aa l.length ca, .slice Ab l.length cb, .slice Ac m.length cc, .slice Ad l.length cd] 23)) := below_tr G4.out (alloc_below _ _)
  have hV : (g4.alloc (.cells #[.slice Aa l.length ca, .slice Ab l.length cb, .slice Ac m.length cc, .slice Ad l.length cd] 23)).ownsRow 0 23 1 (.slice (some ⟨g4.heap.size, 0, none⟩) 4 4) 4 [.slice Aa l.length ca, .slice Ab l.length cb, .slice Ac m.length cc, .slice Ad l.length cd] :=
    own_mk (heap_alloc_new g4 _) (Nat.zero_le _) (Nat.le_refl _) (by decide) rfl rfl rfl
  generalize g4.alloc (.cells #[.slice Aa l.length ca, .slice Ab l.length cb, .slice Ac m.length cc, .slice Ad l.length cd] 23) = W1 at hW1 hV ⊢
  have z1 := HBb.out.size
  have z2 := HBc.out.size
  have z3 := HBd.out.size
  have z0 := HBa.out.size
  have hcall := readApart_four (HOa.out.below HB1.out) (HOb.out.below HC1.out) (HOc.out.below HD1.out) (HOd.out.below HF1.out) (Nat.le_refl _) (Nat.le_refl _) (Nat.le_refl _) z0 z1 z2 (by omega) (by omega) z3 z1 z2 (M := 1048578)
    (by have := Q2.out; omega) (by have := Q2.out; omega) (by have := Q4.out; omega) (by have := Q2.out; omega) (fun x hx => by have := Q1.out x hx; omega) (fun x hx => by have := Q1.out x hx; omega) (fun x hx => by have := Q3.out x hx; omega) (fun x hx => by have := Q1.out x hx; omega) (by decide) _ 0 W1 hV hW1
  refine hcall.mono ?_
  rintro e w' ⟨rfl, hR, hG⟩
  have hB0 : Below w0.heap.size w0 W1 := below_tr (below_tr HBa.out HB1.out) hW1
  have hB' : Below w0.heap.size w0 w' := ⟨hR.os.trans hB0.os, hR.tape.trans hB0.tape, hR.output.trans hB0.output, Nat.le_trans hB0.size hR.size, fun b hb => (hR.same b (Nat.lt_of_lt_of_le hb hB0.size) fun v hv e => by
    have := (hG v hv b e).1
    omega).trans (hB0.block b hb)⟩
  have hBe1 : Below we.heap.size we W1 := below_tr HBf.out hW1
  have hS' := Kd.S_step (w1 := w') HSe.out fun k hk hlt => by
    obtain ⟨_, h1, h2, _⟩ := hk
    exact (hR.same k (Nat.lt_of_lt_of_le h2 hBe1.size) fun v hv e => by
      have := (hG v hv k e).2
      omega).trans (hBe1.block k h2)
  have HE' := Aside0.mk (HE.out.below hB')
  have HB' := Aside0.mk hB'
  have HS' := Aside0.mk hS'
  clear hW1 hV hcall hR hG hB0 hB' hBe1 hS' z0 z1 z2 z3
  go_wp2_with fail
  refine (control_Read.calls s l e1 n1 w' HE'.out RA.out).mono ?_
  rintro e wz ⟨vz, rfl, hSz, hBz⟩
  obtain ⟨Az, cz, rfl⟩ := Kd.S_slice hSz
  have hz := S_read hSz (Below.refl _ _)
  have he := S_read HS'.out hBz
  have HZ := Aside0.mk (depotlaw21_same.calls k Az cz l Ae ce l true true wz hz.1 hz.2 he.1 he.2 SL.out)
  have HBz := Aside0.mk hBz
  clear hSz hz he hBz
  go_wp2_with fail
  refine HZ.out.mono ?_
  rintro e wy ⟨rfl, hdy⟩
  have HY := Aside0.mk (below_tr HB'.out (below_tr HBz.out hdy.below))
  clear hdy HZ
  go_wp2
  go_ret
  exact ⟨rfl, HY.out⟩
end Go.Proofs.YtbaiglikmneicaaDoor.KP

set_option linter.unusedVariables false
set_option linter.unusedSimpArgs false
namespace Go.Proofs.YtbaiglikmneicaaDoor.KP
open Go Go.RowKit Go.Proofs.YtbaiglikmneicaaDoorW.PrintWords Go.Proofs.YtbaiglikmneicaaDoorW.PrintLast Go.Proofs.YtbaiglikmneicaaDoorW.PrintMore Go.Proofs.YtbaiglikmneicaaDoor.P

theorem few_reads (k : Nat) (A0 : Option Addr) (c0 : Nat) (l0 r : List S41) (w : World) (hr0 : Kd.C k41 w A0 l0.length l0) (hc0 : l0.length ≤ c0) (h : depotlaw21_few.f k l0 = some r) :
    Calls Tryd.prog 15 #[.slice A0 l0.length c0] w fun e w' => ∃ A c, e = .returned (.slice A r.length c) ∧ r.length ≤ c ∧ Kd.C k41 w' A r.length r ∧ Below w.heap.size w w' := by
  refine (depotlaw21_few.calls k (fun k_ => k_ < w.heap.size) A0 c0 l0 r w (Kd.V_mk hc0 (Kd.C_F k41_heap hr0)) h).mono ?_
  rintro e w' ⟨v, rfl, hN, hb⟩
  obtain ⟨A, c, rfl, h1, h2⟩ := Kd.N_reads hN
  exact ⟨A, c, rfl, h1, h2, hb⟩
section
variable {A : Option Addr} {c n k : Nat} {x : List S41} {r1 : ByteArray} {r2 : Int} {w : World}
theorem writeN (hn : x.length = n) (hr : Kd.C k41 w A n x) (hc : n ≤ c) (hE : Env w) (h : control_Write.f x = some (r1, r2)) : Calls Tryd.prog 19 #[.slice A n c] w fun e w' => e = .returned (.tuple #[.string r1, .int .i64 r2]) ∧ Below w.heap.size w w' := by
  subst hn
  exact control_Write.calls A c x r1 r2 w hr hc hE h
theorem refwriteN (hn : x.length = n) (hr : Kd.C k41 w A n x) (hc : n ≤ c) (h : depotref21_Write.f k x = some (r1, r2)) : Calls Tryd.prog 20 #[.slice A n c] w fun e w' => e = .returned (.tuple #[.string r1, .int .i64 r2]) ∧ Below w.heap.size w w' := by
  subst hn
  exact depotref21_Write.calls k A c x r1 r2 w hr hc h
theorem formedN {b : Bool} (hn : x.length = n) (hr : Kd.C k41 w A n x) (hc : n ≤ c) (hE : Env w) (h : control_Formed.f k x = some b) : Calls Tryd.prog 16 #[.slice A n c] w fun e w' => e = .returned (.bool b) ∧ Below w.heap.size w w' := by
  subst hn
  exact control_Formed.calls k A c x b w hr hc hE h
theorem refformedN {b : Bool} (hn : x.length = n) (hr : Kd.C k41 w A n x) (hc : n ≤ c) (h : depotref21_Formed.f k x = some b) : Calls Tryd.prog 18 #[.slice A n c] w fun e w' => e = .returned (.bool b) ∧ Below w.heap.size w w' := by
  subst hn
  exact depotref21_Formed.calls k A c x b w hr hc h
theorem getN {y : S41} {name : ByteArray} {g1 : ByteArray} {g2 : Bool} {m : Nat} (hn : y.f1.length = m) (hr : Kd.C k50 w A m y.f1) (hc : m ≤ c) (h : control_Get.f k y.f0 y.f1 name = some (g1, g2)) : Calls Tryd.prog 22 #[.agg #[.int .i64 y.f0, .slice A m c], .string name] w fun e w' => e = .returned (.tuple #[.string g1, .bool g2]) ∧ Below w.heap.size w w' := by
  subst hn
  exact control_Get.calls k y.f0 A c y.f1 name g1 g2 w hr hc h
theorem refgetN {y : S41} {name : ByteArray} {g1 : ByteArray} {g2 : Bool} {m : Nat} (hn : y.f1.length = m) (hr : Kd.C k50 w A m y.f1) (hc : m ≤ c) (h : depotref21_Get.f k y.f0 y.f1 name = some (g1, g2)) : Calls Tryd.prog 23 #[.agg #[.int .i64 y.f0, .slice A m c], .string name] w fun e w' => e = .returned (.tuple #[.string g1, .bool g2]) ∧ Below w.heap.size w w' := by
  subst hn
  exact depotref21_Get.calls k y.f0 A c y.f1 name g1 g2 w hr hc h
theorem keptN {l ins : List S41} {Rs : List (List S50)} {Ai Ar Al : Option Addr} {ci cr cl ni nr : Nat} (hni : ins.length = ni) (hnr : Rs.length = nr) (hi : Kd.C k41 w Ai ni ins) (hci : ni ≤ ci) (hr : Kd.C (Kd.slice 50 k50) w Ar nr Rs) (hcr : nr ≤ cr) (hl : Kd.C k41 w Al l.length l) (hcl : l.length ≤ cl) (h : depotlaw21_kept.f k ins Rs l = some true) :
    Calls Tryd.prog 24 #[.agg #[.slice Ai ni ci, .slice Ar nr cr], .slice Al l.length cl] w fun e w' => e = .returned (.bool true) ∧ Below w.heap.size w w' := by
  subst hni
  subst hnr
  refine (depotlaw21_kept.calls k Ai ci ins Ar cr Rs Al cl l true w hi hci hr hcr hl hcl h).mono ?_
  rintro e w' ⟨he, hd⟩
  exact ⟨he, hd⟩
end
/-- The first stanza, as it lies. -/
theorem first_at {w : World} {A : Option Addr} {n : Nat} {x : S41} {l : List S41} (h : Kd.C k41 w A n l) (hx : l[0]? = some x) : ∃ ad Ax cx, A = some ad ∧ w.cell? ad = some (.int .i64 x.f0) ∧ w.cell? ⟨ad.block, ad.off + 1, none⟩ = some (.slice Ax x.f1.length cx) ∧ x.f1.length ≤ cx ∧ k50.C w Ax x.f1.length x.f1 := by
  have hl : 0 < l.length := (List.getElem?_eq_some_iff.1 hx).1
  have hn : l.length = n := h.1
  obtain ⟨ad, A1, c1, e, h0, h1, h2, h3⟩ := at_T41 h 0 (by omega) (by omega)
  have hrd : rd_T41 l 0 = x := by unfold rd_T41; rw [Int.toNat_zero, List.getD_eq_getElem?_getD, hx]; rfl
  have had : ad.add (Int.toNat 0 * 2) = ad := by simp [Addr.add]
  rw [hrd] at h0 h1 h2 h3
  rw [had] at h0 h1
  exact ⟨ad, A1, c1, e, h0, h1, h2, h3⟩
theorem over_first {l : List S41} {x : S41} (h : l[0]? = some x) : (overK l)[0]? = some ⟨x.f0, List.replicate x.f1.length ovK⟩ := by
  unfold overK
  rw [List.getElem?_map, h]
  rfl
set_option maxHeartbeats 16000000 in
set_option maxRecDepth 100000 in
theorem keeps_calls (k : Nat) (l0 l : List S41) (A0 : Option Addr) (c0 : Nat) (s t : ByteArray) (w : World) (hr0 : Kd.C k41 w A0 l0.length l0) (hc0 : l0.length ≤ c0) (hE : Env w) (hs : s.size ≤ 1048576) (ht : t.size ≤ 1048576)
    (hfew : depotlaw21_few.f k l0 = some l) (hlen : l.length ≤ 2000000) (hfl : ∀ x ∈ l, x.f1.length ≤ 2000000) (ha : AtK k l ⟨#[97]⟩) (hb : AtK k (overK l) ⟨#[98]⟩) (hk : depotlaw21_kept.f k (l ++ List.replicate 64 emptyK) (RsK l) l = some true) :
    Calls Tryd.prog 7 #[.slice A0 l0.length c0, .string s, .string t] w fun e w' => e = .returned (.bool true) ∧ Below w.heap.size w w' := by
  have HR0 := Aside0.mk hr0
  have HE := Aside0.mk hE
  have HFL := Aside0.mk hfl
  have HA := Aside0.mk ha
  have HBO := Aside0.mk hb
  have HK := Aside0.mk hk
  have HFEW := Aside0.mk hfew
  obtain ⟨⟨o1, o2⟩, ho⟩ : ∃ r, writeC l = r := ⟨_, rfl⟩
  obtain ⟨⟨p1, p2⟩, hp⟩ : ∃ r, writeC (overK l) = r := ⟨_, rfl⟩
  have HW1 : Aside0 (control_Write.f l = some (o1, o2)) := ⟨by rw [← ho]; exact ha.write⟩
  have HW2 : Aside0 (depotref21_Write.f k l = some (o1, o2)) := ⟨by rw [← ho]; exact ha.refwrite⟩
  have HW3 : Aside0 (control_Write.f (overK l) = some (p1, p2)) := ⟨by rw [← hp]; exact hb.write⟩
  have HW4 : Aside0 (depotref21_Write.f k (overK l) = some (p1, p2)) := ⟨by rw [← hp]; exact hb.refwrite⟩
  obtain ⟨f1, hf1⟩ : ∃ b, formedC l = b := ⟨_, rfl⟩
  obtain ⟨f2, hf2⟩ : ∃ b, formedC (overK l) = b := ⟨_, rfl⟩
  have HF1 : Aside0 (control_Formed.f k l = some f1) := ⟨by rw [← hf1]; exact ha.formed⟩
  have HF2 : Aside0 (depotref21_Formed.f k l = some f1) := ⟨by rw [← hf1]; exact ha.refformed⟩
  have HF3 : Aside0 (control_Formed.f k (overK l) = some f2) := ⟨by rw [← hf2]; exact hb.formed⟩
  have HF4 : Aside0 (depotref21_Formed.f k (overK l) = some f2) := ⟨by rw [← hf2]; exact hb.refformed⟩
  clear hr0 hE hfl ha hb hk hfew ho hp hf1 hf2
  go_enter Tryd.func7, Tryd.ntmps7
  go_wp2_with fail
  refine (few_reads k A0 c0 l0 l w HR0.out hc0 HFEW.out).mono ?_
  rintro e w1 ⟨A1, c1, rfl, hc1, hC1, hB1⟩
  have HC1 := Aside0.mk hC1
  have HB1 := Aside0.mk hB1
  clear hC1 hB1
  go_wp2_with fail
  refine (lent_calls l A1 c1 w1 HC1.out hc1 hlen HFL.out).mono ?_
  rintro e w2 ⟨inV, rowsV, rs, cs, rfl, hP, hB2⟩
  obtain ⟨g, ci, rfl, hci, hCa, hCi⟩ := hP.reads
  obtain ⟨Ar, cr, rfl, hcr, hCr⟩ := hP.rowsC
  rw [RsK_len] at hcr hCr hP ⊢
  rw [headsK_own] at hCa hCi
  have HP := Aside0.mk hP
  have HB2 := Aside0.mk hB2
  have HCA := Aside0.mk hCa
  have HCI := Aside0.mk hCi
  have HCR := Aside0.mk hCr
  have HLR : Aside0 (∀ v ∈ rs, lenV v ≤ 1000000000) := ⟨fun v hv => by
    obtain ⟨j, hj⟩ := List.mem_iff_getElem?.1 hv
    have hjl : j < l.length := by
      have := (List.getElem?_eq_some_iff.1 hj).1
      rw [hP.rows.len, RsK_len] at this
      exact this
    have hx := List.getElem?_eq_getElem hjl
    have h1 := (hP.rows.own j v _ hj (RsK_at hx)).1
    rw [List.length_append, List.length_replicate] at h1
    have h2 := HFL.out _ (List.getElem_mem hjl)
    omega⟩
  have hco : l.length ≤ ci := by omega
  clear hP hB2 hCa hCi hCr
  go_wp2_with fail
  have hbx : (w2.alloc (.cells #[.slice (some ⟨g, 0, none⟩) (l.length + 64) ci, .slice Ar l.length cr] 35)).heap[w2.heap.size]? = some (.cells #[.slice (some ⟨g, 0, none⟩) (l.length + 64) ci, .slice Ar l.length cr] 35 (0, 0)) := heap_alloc_new w2 _
  have h23 : Below w2.heap.size w2 (w2.alloc (.cells #[.slice (some ⟨g, 0, none⟩) (l.length + 64) ci, .slice Ar l.length cr] 35)) := alloc_below _ _
  obtain ⟨X, hX⟩ : ∃ X, w2.heap.size = X := ⟨_, rfl⟩
  generalize w2.alloc (.cells #[.slice (some ⟨g, 0, none⟩) (l.length + 64) ci, .slice Ar l.length cr] 35) = w3 at hbx h23 ⊢
  rw [hX] at hbx ⊢
  have H23 := Aside0.mk h23
  have H13 := Aside0.mk (below_tr HB2.out h23)
  have H03 := Aside0.mk (below_tr HB1.out (below_tr HB2.out h23))
  have FX := Aside0.mk (fun (W : World) (h : Below w3.heap.size w3 W) => And.intro ((blk_cell (blk_below hbx h) 0).trans (show _ = some (Value.slice (some ⟨g, 0, none⟩) (l.length + 64) ci) from rfl)) ((blk_cell (blk_below hbx h) 1).trans (show _ = some (Value.slice Ar l.length cr) from rfl)))
  have FI := Aside0.mk (fun (W : World) (h : Below w3.heap.size w3 W) => Kd.C_below HCI.out (below_tr H23.out h))
  have FIA := Aside0.mk (fun (W : World) (h : Below w3.heap.size w3 W) => Kd.C_below HCA.out (below_tr H23.out h))
  have FL := Aside0.mk (fun (W : World) (h : Below w3.heap.size w3 W) => Kd.C_below HC1.out (below_tr H13.out h))
  have FR := Aside0.mk (fun (W : World) (h : Below w3.heap.size w3 W) => Kd.C_below HCR.out (below_tr H23.out h))
  have FE := Aside0.mk (fun (W : World) (h : Below w3.heap.size w3 W) => HE.out.below (below_tr H03.out h))
  have FP := Aside0.mk (fun (W : World) (h : Below w3.heap.size w3 W) => HP.out.below (below_tr H23.out h))
  have G3 := Aside0.mk (Below.refl w3.heap.size w3)
  have hin : (l ++ List.replicate 64 emptyK).length = l.length + 64 := by simp
  have HIN := Aside0.mk hin
  clear hbx h23 hX hin HCI HCA HC1 HCR HP
  refine (writeN (x := l) (r1 := o1) (r2 := o2) rfl (FI.out _ G3.out) hco (FE.out _ G3.out) HW1.out).mono ?_
  rintro e w4 ⟨rfl, hbz⟩
  have G4 := Aside0.mk (below_tr G3.out hbz)
  clear hbz G3
  go_wp2_with fail
  refine (formedN (x := l) (k := k) (b := f1) rfl (FI.out _ G4.out) hco (FE.out _ G4.out) HF1.out).mono ?_
  rintro e w5 ⟨rfl, hbz⟩
  have G5 := Aside0.mk (below_tr G4.out hbz)
  clear hbz G4
  by_cases hz : 0 < l.length
  · obtain ⟨x, hx⟩ : ∃ x, l[0]? = some x := ⟨_, List.getElem?_eq_getElem hz⟩
    obtain ⟨⟨gr1, gr2⟩, hg1, hg2⟩ := HA.out.get x (List.mem_of_getElem? hx)
    obtain ⟨⟨gs1, gs2⟩, hg3, hg4⟩ := HBO.out.get _ (List.mem_of_getElem? (over_first hx))
    obtain ⟨ady, Ay, cy, ey, hy0, hy1, hy2, hy3⟩ := first_at (FI.out w5 G5.out) hx
    obtain rfl : (⟨g, 0, none⟩ : Addr) = ady := by injection ey
    have hy1' : w5.cell? ⟨g, 1, none⟩ = some (.slice Ay x.f1.length cy) := hy1
    obtain ⟨ad, Az, cz, ez, hz0, hz1, hz2, hz3⟩ := first_at (FL.out w5 G5.out) hx
    subst ez
    have H5 := Aside0.mk G5.out
    have GS := Aside0.mk (Below.refl w5.heap.size w5)
    have HY0 := Aside0.mk (fun (W : World) (h : Below w5.heap.size w5 W) => (h.cell (World.block_lt_of_cell? w5 _ hy0)).trans hy0)
    have HY1 := Aside0.mk (fun (W : World) (h : Below w5.heap.size w5 W) => (h.cell (World.block_lt_of_cell? w5 _ hy1')).trans hy1')
    have HZ0 := Aside0.mk (fun (W : World) (h : Below w5.heap.size w5 W) => (h.cell (World.block_lt_of_cell? w5 _ hz0)).trans hz0)
    have HZ1 := Aside0.mk (fun (W : World) (h : Below w5.heap.size w5 W) => (h.cell (World.block_lt_of_cell? w5 _ hz1)).trans hz1)
    have HY3 := Aside0.mk hy3
    have HZ3 := Aside0.mk hz3
    have HG1 := Aside0.mk hg1
    have HG2 := Aside0.mk hg2
    have HG3 := Aside0.mk hg3
    have HG4 := Aside0.mk hg4
    have HX := Aside0.mk hx
    clear hy1 hy3 hz0 hz1 hz3 hg1 hg2 hg3 hg4 ey hx
    go_wp2_with fail
    clear hy0 hy1'
    refine (getN (y := x) (name := ⟨#[97]⟩) (k := k) (g1 := gr1) (g2 := gr2) rfl HY3.out hy2 HG1.out).mono ?_
    rintro e w6 ⟨rfl, hbz⟩
    have z0 := HZ0.out w6 hbz
    have z1 := HZ1.out w6 hbz
    have GS6 := Aside0.mk hbz
    clear hbz GS
    go_wp2_with fail
    clear z0 z1
    refine (refgetN (y := x) (name := ⟨#[97]⟩) (k := k) (g1 := gr1) (g2 := gr2) rfl (Kd.C_below HZ3.out GS6.out) hz2 HG2.out).mono ?_
    rintro e w7 ⟨rfl, hbz⟩
    have G7 := Aside0.mk (below_tr H5.out (below_tr GS6.out hbz))
    clear hbz GS6 H5 G5 HY0 HY1 HZ0 HZ1 HY3 HZ3
    go_wp2_with fail
    refine (refwriteN (x := l) (k := k) (r1 := o1) (r2 := o2) rfl (FL.out _ G7.out) hc1 HW2.out).mono ?_
    rintro e w8 ⟨rfl, hbz⟩
    have G8 := Aside0.mk (below_tr G7.out hbz)
    clear hbz G7
    go_wp2_with fail
    refine (refformedN (x := l) (k := k) (b := f1) rfl (FL.out _ G8.out) hc1 HF2.out).mono ?_
    rintro e w9 ⟨rfl, hbz⟩
    have G9 := Aside0.mk (below_tr G8.out hbz)
    clear hbz G8
    have b0 := (FX.out _ G9.out).1
    have b1 := (FX.out _ G9.out).2
    go_wp2_with fail
    clear b0 b1
    refine (keptN (k := k) HIN.out (RsK_len l) (FIA.out _ G9.out) hci (FR.out _ G9.out) hcr (FL.out _ G9.out) hc1 HK.out).mono ?_
    rintro e w10 ⟨rfl, hbz⟩
    have G10 := Aside0.mk (below_tr G9.out hbz)
    clear hbz G9
    go_wp2_with fail
    refine (writeN (x := l) (r1 := o1) (r2 := o2) rfl (FI.out _ G10.out) hco (FE.out _ G10.out) HW1.out).mono ?_
    rintro e w11 ⟨rfl, hbz⟩
    have G11 := Aside0.mk (below_tr G10.out hbz)
    clear hbz G10
    have b0 := (FX.out _ G11.out).1
    have b1 := (FX.out _ G11.out).2
    go_wp2_with fail
    clear b0 b1
    have HPW := Aside0.mk (FP.out _ G11.out)
    have hrl : rs.length = l.length := by rw [HPW.out.rows.len, RsK_len]
    refine (over_calls (.slice (some ⟨g, 0, none⟩) (l.length + 64) ci) (.slice Ar l.length cr) rs w1.heap.size w11 rfl (by rw [hrl]; exact HPW.out.own2) HPW.out.rowsAre HPW.out.rows.sep (by omega) HLR.out).mono ?_
    rintro e w12 ⟨⟨ve, rfl⟩, hP1, hRo⟩
    have HO := Aside0.mk (HPW.out.over hRo hP1)
    have GB := Aside0.mk (HPW.out.belowR hRo w HB1.out.size (below_tr H03.out G11.out))
    have FEo := Aside0.mk (HE.out.below GB.out)
    obtain ⟨g', ci', eV, _, _, hCo⟩ := HO.out.reads
    obtain ⟨rfl, rfl⟩ : g = g' ∧ ci = ci' := by injection eV with e1 _ e3; injection e1 with e1; injection e1 with e1; exact ⟨e1, e3⟩
    rw [headsK_over] at hCo
    have HCO := Aside0.mk hCo
    have FO := Aside0.mk (fun (W : World) (h : Below w12.heap.size w12 W) => Kd.C_below HCO.out h)
    have FEb := Aside0.mk (fun (W : World) (h : Below w12.heap.size w12 W) => FEo.out.below h)
    have G12 := Aside0.mk (Below.refl w12.heap.size w12)
    have HOL := Aside0.mk (overK_len l)
    clear hP1 hRo hCo eV HPW hrl FX FI FIA FL FR FE FP HLR G11
    go_wp2_with fail
    refine (writeN (x := overK l) (r1 := p1) (r2 := p2) HOL.out (FO.out _ G12.out) hco (FEb.out _ G12.out) HW3.out).mono ?_
    rintro e w13 ⟨rfl, hbz⟩
    have G13 := Aside0.mk (below_tr G12.out hbz)
    clear hbz G12
    go_wp2_with fail
    refine (refwriteN (x := overK l) (k := k) (r1 := p1) (r2 := p2) HOL.out (FO.out _ G13.out) hco HW4.out).mono ?_
    rintro e w14 ⟨rfl, hbz⟩
    have G14 := Aside0.mk (below_tr G13.out hbz)
    clear hbz G13
    go_wp2_with fail
    refine (formedN (x := overK l) (k := k) (b := f2) HOL.out (FO.out _ G14.out) hco (FEb.out _ G14.out) HF3.out).mono ?_
    rintro e w15 ⟨rfl, hbz⟩
    have G15 := Aside0.mk (below_tr G14.out hbz)
    clear hbz G14
    go_wp2_with fail
    refine (refformedN (x := overK l) (k := k) (b := f2) HOL.out (FO.out _ G15.out) hco HF4.out).mono ?_
    rintro e w16 ⟨rfl, hbz⟩
    have G16 := Aside0.mk (below_tr G15.out hbz)
    clear hbz G15
    obtain ⟨ady, Ay, cy, ey, hy0, hy1, hy2, hy3⟩ := first_at (FO.out w16 G16.out) (over_first HX.out)
    obtain rfl : (⟨g, 0, none⟩ : Addr) = ady := by injection ey
    have hy1' : w16.cell? ⟨g, 1, none⟩ = some (.slice Ay (List.replicate x.f1.length ovK).length cy) := hy1
    have HY3 := Aside0.mk hy3
    have HY0 := Aside0.mk (fun (W : World) (h : Below w16.heap.size w16 W) => (h.cell (World.block_lt_of_cell? w16 _ hy0)).trans hy0)
    have HY1 := Aside0.mk (fun (W : World) (h : Below w16.heap.size w16 W) => (h.cell (World.block_lt_of_cell? w16 _ hy1')).trans hy1')
    obtain ⟨m, hm⟩ : ∃ m, (List.replicate x.f1.length ovK).length = m := ⟨_, rfl⟩
    rw [hm] at hy1' hy2 HY3 HY1
    have HM := Aside0.mk hm
    clear hy1 hy3 ey hm
    go_wp2_with fail
    clear hy0 hy1'
    refine (getN (y := ⟨x.f0, List.replicate x.f1.length ovK⟩) (name := ⟨#[98]⟩) (k := k) (g1 := gs1) (g2 := gs2) HM.out HY3.out hy2 HG3.out).mono ?_
    rintro e wg ⟨rfl, hbz⟩
    have y0 := HY0.out wg hbz
    have y1 := HY1.out wg hbz
    have GS6 := Aside0.mk hbz
    clear hbz
    go_wp2_with fail
    clear y0 y1
    refine (refgetN (y := ⟨x.f0, List.replicate x.f1.length ovK⟩) (name := ⟨#[98]⟩) (k := k) (g1 := gs1) (g2 := gs2) HM.out (Kd.C_below HY3.out GS6.out) hy2 HG4.out).mono ?_
    rintro e w17 ⟨rfl, hbz⟩
    have G17 := Aside0.mk (below_tr G16.out (below_tr GS6.out hbz))
    clear hbz GS6 HY0 HY1 HY3 G16
    go_wp2_with fail
    refine (readApart_calls s t w17 (FEb.out _ G17.out) hs ht).mono ?_
    rintro e wz ⟨rfl, hbz⟩
    have GZ := Aside0.mk (below_tr GB.out (below_tr G17.out hbz))
    clear hbz
    go_wp2_with fail
    go_ret
    exact ⟨by simp, GZ.out⟩
  · go_wp2_with fail
    refine (refwriteN (x := l) (k := k) (r1 := o1) (r2 := o2) rfl (FL.out _ G5.out) hc1 HW2.out).mono ?_
    rintro e w6 ⟨rfl, hbz⟩
    have G6 := Aside0.mk (below_tr G5.out hbz)
    clear hbz G5
    go_wp2_with fail
    refine (refformedN (x := l) (k := k) (b := f1) rfl (FL.out _ G6.out) hc1 HF2.out).mono ?_
    rintro e w7 ⟨rfl, hbz⟩
    have G7 := Aside0.mk (below_tr G6.out hbz)
    clear hbz G6
    have b0 := (FX.out _ G7.out).1
    have b1 := (FX.out _ G7.out).2
    go_wp2_with fail
    clear b0 b1
    refine (keptN (k := k) HIN.out (RsK_len l) (FIA.out _ G7.out) hci (FR.out _ G7.out) hcr (FL.out _ G7.out) hc1 HK.out).mono ?_
    rintro e w8 ⟨rfl, hbz⟩
    have G8 := Aside0.mk (below_tr G7.out hbz)
    clear hbz G7
    go_wp2_with fail
    refine (writeN (x := l) (r1 := o1) (r2 := o2) rfl (FI.out _ G8.out) hco (FE.out _ G8.out) HW1.out).mono ?_
    rintro e w9 ⟨rfl, hbz⟩
    have G9 := Aside0.mk (below_tr G8.out hbz)
    clear hbz G8
    have b0 := (FX.out _ G9.out).1
    have b1 := (FX.out _ G9.out).2
    go_wp2_with fail
    clear b0 b1
    have HPW := Aside0.mk (FP.out _ G9.out)
    have hrl : rs.length = l.length := by rw [HPW.out.rows.len, RsK_len]
    refine (over_calls (.slice (some ⟨g, 0, none⟩) (l.length + 64) ci) (.slice Ar l.length cr) rs w1.heap.size w9 rfl (by rw [hrl]; exact HPW.out.own2) HPW.out.rowsAre HPW.out.rows.sep (by omega) HLR.out).mono ?_
    rintro e w10 ⟨⟨ve, rfl⟩, hP1, hRo⟩
    have HO := Aside0.mk (HPW.out.over hRo hP1)
    have GB := Aside0.mk (HPW.out.belowR hRo w HB1.out.size (below_tr H03.out G9.out))
    have FEo := Aside0.mk (HE.out.below GB.out)
    obtain ⟨g', ci', eV, _, _, hCo⟩ := HO.out.reads
    obtain ⟨rfl, rfl⟩ : g = g' ∧ ci = ci' := by injection eV with e1 _ e3; injection e1 with e1; injection e1 with e1; exact ⟨e1, e3⟩
    rw [headsK_over] at hCo
    have HCO := Aside0.mk hCo
    have FO := Aside0.mk (fun (W : World) (h : Below w10.heap.size w10 W) => Kd.C_below HCO.out h)
    have FEb := Aside0.mk (fun (W : World) (h : Below w10.heap.size w10 W) => FEo.out.below h)
    have G10 := Aside0.mk (Below.refl w10.heap.size w10)
    have HOL := Aside0.mk (overK_len l)
    clear hP1 hRo hCo eV HPW hrl FX FI FIA FL FR FE FP HLR G9
    go_wp2_with fail
    refine (writeN (x := overK l) (r1 := p1) (r2 := p2) HOL.out (FO.out _ G10.out) hco (FEb.out _ G10.out) HW3.out).mono ?_
    rintro e w11 ⟨rfl, hbz⟩
    have G11 := Aside0.mk (below_tr G10.out hbz)
    clear hbz G10
    go_wp2_with fail
    refine (refwriteN (x := overK l) (k := k) (r1 := p1) (r2 := p2) HOL.out (FO.out _ G11.out) hco HW4.out).mono ?_
    rintro e w12 ⟨rfl, hbz⟩
    have G12 := Aside0.mk (below_tr G11.out hbz)
    clear hbz G11
    go_wp2_with fail
    refine (formedN (x := overK l) (k := k) (b := f2) HOL.out (FO.out _ G12.out) hco (FEb.out _ G12.out) HF3.out).mono ?_
    rintro e w13 ⟨rfl, hbz⟩
    have G13 := Aside0.mk (below_tr G12.out hbz)
    clear hbz G12
    go_wp2_with fail
    refine (refformedN (x := overK l) (k := k) (b := f2) HOL.out (FO.out _ G13.out) hco HF4.out).mono ?_
    rintro e w14 ⟨rfl, hbz⟩
    have G14 := Aside0.mk (below_tr G13.out hbz)
    clear hbz G13
    go_wp2_with fail
    refine (readApart_calls s t w14 (FEb.out _ G14.out) hs ht).mono ?_
    rintro e wz ⟨rfl, hbz⟩
    have GZ := Aside0.mk (below_tr GB.out (below_tr G14.out hbz))
    clear hbz
    go_wp2_with fail
    go_ret
    exact ⟨by simp, GZ.out⟩
end Go.Proofs.YtbaiglikmneicaaDoor.KP
