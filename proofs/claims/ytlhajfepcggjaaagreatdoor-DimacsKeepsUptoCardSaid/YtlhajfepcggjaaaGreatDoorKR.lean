/- depotlaw03.readsApart: true. Conditions: those of its parts. depotlaw03.modelsApart: true. Conditions: those of its parts. Copies, the formula's shape and the comparison of a formula with itself, for the laws that write and read. No conditions. DimacsKeeps: the values of depotkit's functions. No conditions. depotlaw03.DimacsKeeps: true. Conditions: those of its parts. depotlaw03.DimacsKeeps is true of everything of bulk at most 1048576. Conditions: those bounds. -/
import Derived.Test.YtlhajfepcggjaaaGreatDoorKL
import Derived.Test.YtlhajfepcggjaaaGreatDoorTellU
import Derived.Test.YtlhajfepcggjaaaGreatDoorRx3
import Derived.Test.YtlhajfepcggjaaaGreatDoorKA
import Derived.Test.YtlhajfepcggjaaaGreatDoorRx11
import Derived.Test.YtlhajfepcggjaaaGreatDoorFormP
import Derived.Test.YtlhajfepcggjaaaGreatDoorRx8
set_option linter.unusedVariables false
set_option linter.unusedSimpArgs false
namespace Go.Proofs.YtlhajfepcggjaaaGreatDoor.KP
open Go Go.RowKit Go.Proofs.YtlhajfepcggjaaaGreatDoorW.PrintWords Go.Proofs.YtlhajfepcggjaaaGreatDoorW.PrintLast Go.Proofs.YtlhajfepcggjaaaGreatDoorW.PrintMore Go.Proofs.YtlhajfepcggjaaaGreatDoor.R

theorem below_tr {A B C : World} (h1 : Below A.heap.size A B) (h2 : Below B.heap.size B C) : Below A.heap.size A C := h1.trans (h2.mono h1.size)
/-- The four lists' cells. -/
def fourX (Xa Xb Xc Xd : List Value) (j : Nat) : List Value := [Xa, Xb, Xc, Xd].getD j []
theorem S_read {w W : World} {base c : Nat} {ok : Nat → Prop} {A : Option Addr} {xs : List (List Int)} (h : Kd.S (Kd.slice 3 (Kd.int .i64)) 43 w base ok (.slice A xs.length c) xs) (hb : Below w.heap.size w W) : Kd.C (Kd.slice 3 (Kd.int .i64)) W A xs.length xs ∧ xs.length ≤ c :=
 ⟨Kd.C_below (Kd.S_reads' h).2.2 hb, (Kd.S_reads' h).2.1⟩
set_option maxHeartbeats 16000000 in
set_option maxRecDepth 100000 in
theorem readsApart_calls (k : Nat) (s t : ByteArray) (va vb : Int) (a b : List (List Int)) (e1 n1 e2 n2 : Int) (w : World) (hE : Env w) (hR1 : dimacs_Read.f s = some (va, a, e1, n1)) (hR2 : depotref03_Read.f k s = some (va, a, e1, n1)) (hR3 : dimacs_Read.f t = some (vb, b, e2, n2)) (hR4 : depotref03_Read.f k t = some (vb, b, e2, n2))
  (hSA : depotref00_SameFormula.f k va a va a = some true) (hSB : depotref00_SameFormula.f k vb b vb b = some true) (ha : a.length ≤ 1048577) (hla : ∀ x ∈ a, x.length ≤ 1048577) (hb : b.length ≤ 1048577) (hlb : ∀ x ∈ b, x.length ≤ 1048577) :
  Calls Tryz.prog 15 #[.string s, .string t] w fun e w' => e = .returned (.bool true) ∧ Below w.heap.size w w' := by
 have HE := Aside0.mk hE
 have HR1 := Aside0.mk hR1
 have HR2 := Aside0.mk hR2
 have HR3 := Aside0.mk hR3
 have HR4 := Aside0.mk hR4
 have HSA := Aside0.mk hSA
 have HSB := Aside0.mk hSB
 have HLA := Aside0.mk hla
 have HLB := Aside0.mk hlb
 have HA := Aside0.mk ha
 have HBL := Aside0.mk hb
 clear hE hR1 hR2 hR3 hR4 hSA hSB hla hlb ha hb
 have G0 := Aside0.mk (Below.refl w.heap.size w)
 go_enter Tryz.func15, Tryz.ntmps15
 go_wp2_with fail
 refine (dimacs_Read.calls s va a e1 n1 _ (HE.out.below G0.out) HR1.out).mono ?_
 rintro e w1 ⟨va, rfl, hSa, hbz⟩
 obtain ⟨Xa, hOa⟩ := S_openR hSa
 obtain ⟨Aa, ca, rfl⟩ := Kd.S_slice hSa
 have HSa := Aside0.mk hSa
 have HOa := Aside0.mk hOa
 have HBa := Aside0.mk hbz
 have G1 := Aside0.mk (below_tr G0.out hbz)
 clear hSa hbz G0 hOa
 go_wp2_with fail
 have hbx : (w1.alloc (.cells #[.int .i64 va, .slice Aa a.length ca] 24)).heap[w1.heap.size]? = some (.cells #[.int .i64 va, .slice Aa a.length ca] 24 (0, 0)) := heap_alloc_new _ _
 have hbz : Below w1.heap.size w1 (w1.alloc (.cells #[.int .i64 va, .slice Aa a.length ca] 24)) := alloc_below _ _
 obtain ⟨ga, hga⟩ : ∃ ga, w1.heap.size = ga := ⟨_, rfl⟩
 generalize w1.alloc (.cells #[.int .i64 va, .slice Aa a.length ca] 24) = w2 at hbx hbz ⊢
 rw [hga] at hbx ⊢
 have HGa := Aside0.mk hga
 have HXa := Aside0.mk hbx
 have HZa := Aside0.mk hbz
 have G2 := Aside0.mk (below_tr G1.out hbz)
 clear hga hbx hbz G1
 refine (dimacs_Read.calls s va a e1 n1 _ (HE.out.below G2.out) HR1.out).mono ?_
 rintro e w3 ⟨vb, rfl, hSb, hbz⟩
 obtain ⟨Xb, hOb⟩ := S_openR hSb
 obtain ⟨Ab, cb, rfl⟩ := Kd.S_slice hSb
 have HSb := Aside0.mk hSb
 have HOb := Aside0.mk hOb
 have HBb := Aside0.mk hbz
 have G3 := Aside0.mk (below_tr G2.out hbz)
 clear hSb hbz G2 hOb
 go_wp2_with fail
 have hbx : (w3.alloc (.cells #[.int .i64 va, .slice Ab a.length cb] 24)).heap[w3.heap.size]? = some (.cells #[.int .i64 va, .slice Ab a.length cb] 24 (0, 0)) := heap_alloc_new _ _
 have hbz : Below w3.heap.size w3 (w3.alloc (.cells #[.int .i64 va, .slice Ab a.length cb] 24)) := alloc_below _ _
 obtain ⟨gb, hgb⟩ : ∃ gb, w3.heap.size = gb := ⟨_, rfl⟩
 generalize w3.alloc (.cells #[.int .i64 va, .slice Ab a.length cb] 24) = w4 at hbx hbz ⊢
 rw [hgb] at hbx ⊢
 have HGb := Aside0.mk hgb
 have HXb := Aside0.mk hbx
 have HZb := Aside0.mk hbz
 have G4 := Aside0.mk (below_tr G3.out hbz)
 clear hgb hbx hbz G3
 refine (dimacs_Read.calls t vb b e2 n2 _ (HE.out.below G4.out) HR3.out).mono ?_
 rintro e w5 ⟨vc, rfl, hSc, hbz⟩
 obtain ⟨Xc, hOc⟩ := S_openR hSc
 obtain ⟨Ac, cc, rfl⟩ := Kd.S_slice hSc
 have HSc := Aside0.mk hSc
 have HOc := Aside0.mk hOc
 have HBc := Aside0.mk hbz
 have G5 := Aside0.mk (below_tr G4.out hbz)
 clear hSc hbz G4 hOc
 go_wp2_with fail
 have hbx : (w5.alloc (.cells #[.int .i64 vb, .slice Ac b.length cc] 24)).heap[w5.heap.size]? = some (.cells #[.int .i64 vb, .slice Ac b.length cc] 24 (0, 0)) := heap_alloc_new _ _
 have hbz : Below w5.heap.size w5 (w5.alloc (.cells #[.int .i64 vb, .slice Ac b.length cc] 24)) := alloc_below _ _
 obtain ⟨gc, hgc⟩ : ∃ gc, w5.heap.size = gc := ⟨_, rfl⟩
 generalize w5.alloc (.cells #[.int .i64 vb, .slice Ac b.length cc] 24) = w6 at hbx hbz ⊢
 rw [hgc] at hbx ⊢
 have HGc := Aside0.mk hgc
 have HXc := Aside0.mk hbx
 have HZc := Aside0.mk hbz
 have G6 := Aside0.mk (below_tr G5.out hbz)
 clear hgc hbx hbz G5
 refine (dimacs_Read.calls s va a e1 n1 _ (HE.out.below G6.out) HR1.out).mono ?_
 rintro e w7 ⟨vd, rfl, hSd, hbz⟩
 obtain ⟨Xd, hOd⟩ := S_openR hSd
 obtain ⟨Ad, cd, rfl⟩ := Kd.S_slice hSd
 have HSd := Aside0.mk hSd
 have HOd := Aside0.mk hOd
 have HBd := Aside0.mk hbz
 have G7 := Aside0.mk (below_tr G6.out hbz)
 clear hSd hbz G6 hOd
 go_wp2_with fail
 have hbx : (w7.alloc (.cells #[.int .i64 va, .slice Ad a.length cd] 24)).heap[w7.heap.size]? = some (.cells #[.int .i64 va, .slice Ad a.length cd] 24 (0, 0)) := heap_alloc_new _ _
 have hbz : Below w7.heap.size w7 (w7.alloc (.cells #[.int .i64 va, .slice Ad a.length cd] 24)) := alloc_below _ _
 obtain ⟨gd, hgd⟩ : ∃ gd, w7.heap.size = gd := ⟨_, rfl⟩
 generalize w7.alloc (.cells #[.int .i64 va, .slice Ad a.length cd] 24) = w8 at hbx hbz ⊢
 rw [hgd] at hbx ⊢
 have HGd := Aside0.mk hgd
 have HXd := Aside0.mk hbx
 have HZd := Aside0.mk hbz
 have G8 := Aside0.mk (below_tr G7.out hbz)
 clear hgd hbx hbz G7
 refine (depotref03_Read.calls k s va a e1 n1 _ (HE.out.below G8.out) HR2.out).mono ?_
 rintro e w9 ⟨vw, rfl, hSw, hbz⟩
 obtain ⟨Aw, cw, rfl⟩ := Kd.S_slice hSw
 have HSw := Aside0.mk (Kd.S_bound hSw)
 have HBw := Aside0.mk hbz
 have G9 := Aside0.mk (below_tr G8.out hbz)
 clear hSw hbz G8
 go_wp2_with fail
 have hbx : (w9.alloc (.cells #[.int .i64 va, .slice Aw a.length cw] 24)).heap[w9.heap.size]? = some (.cells #[.int .i64 va, .slice Aw a.length cw] 24 (0, 0)) := heap_alloc_new _ _
 have hbz : Below w9.heap.size w9 (w9.alloc (.cells #[.int .i64 va, .slice Aw a.length cw] 24)) := alloc_below _ _
 obtain ⟨gw, hgw⟩ : ∃ gw, w9.heap.size = gw := ⟨_, rfl⟩
 generalize w9.alloc (.cells #[.int .i64 va, .slice Aw a.length cw] 24) = w10 at hbx hbz ⊢
 rw [hgw] at hbx ⊢
 have HGw := Aside0.mk hgw
 have HXw := Aside0.mk hbx
 have HZw := Aside0.mk hbz
 have G10 := Aside0.mk (below_tr G9.out hbz)
 clear hgw hbx hbz G9
 refine (depotref03_Read.calls k t vb b e2 n2 _ (HE.out.below G10.out) HR4.out).mono ?_
 rintro e w11 ⟨vo, rfl, hSo, hbz⟩
 obtain ⟨Ao, co, rfl⟩ := Kd.S_slice hSo
 have HSo := Aside0.mk (Kd.S_bound hSo)
 have HBo := Aside0.mk hbz
 have G11 := Aside0.mk (below_tr G10.out hbz)
 clear hSo hbz G10
 have Dw := Aside0.mk (below_tr HZw.out HBo.out)
 have Dd := Aside0.mk (below_tr (below_tr HZd.out HBw.out) Dw.out)
 have Dc := Aside0.mk (below_tr (below_tr HZc.out HBd.out) Dd.out)
 have Db := Aside0.mk (below_tr (below_tr HZb.out HBc.out) Dc.out)
 have Da := Aside0.mk (below_tr (below_tr HZa.out HBb.out) Db.out)
 have BXa := Aside0.mk (blk_below HXa.out (below_tr HBb.out Db.out))
 have BXb := Aside0.mk (blk_below HXb.out (below_tr HBc.out Dc.out))
 have BXc := Aside0.mk (blk_below HXc.out (below_tr HBd.out Dd.out))
 have BXd := Aside0.mk (blk_below HXd.out (below_tr HBw.out Dw.out))
 have BXw := Aside0.mk (blk_below HXw.out HBo.out)
 clear HXa HXb HXc HXd HXw
 have hbx : (w11.alloc (.cells #[.int .i64 vb, .slice Ao b.length co] 24)).heap[w11.heap.size]? = some (.cells #[.int .i64 vb, .slice Ao b.length co] 24 (0, 0)) := heap_alloc_new _ _
 have hbz : Below w11.heap.size w11 (w11.alloc (.cells #[.int .i64 vb, .slice Ao b.length co] 24)) := alloc_below _ _
 have f0 : (w11.alloc (.cells #[.int .i64 vb, .slice Ao b.length co] 24)).cell? ⟨ga, 0, none⟩ = some (.int .i64 va) := (blk_cell (blk_below BXa.out hbz) 0).trans rfl
 have f1 : (w11.alloc (.cells #[.int .i64 vb, .slice Ao b.length co] 24)).cell? ⟨ga, 1, none⟩ = some (.slice Aa a.length ca) := (blk_cell (blk_below BXa.out hbz) 1).trans rfl
 have f2 : (w11.alloc (.cells #[.int .i64 vb, .slice Ao b.length co] 24)).cell? ⟨gw, 0, none⟩ = some (.int .i64 va) := (blk_cell (blk_below BXw.out hbz) 0).trans rfl
 have f3 : (w11.alloc (.cells #[.int .i64 vb, .slice Ao b.length co] 24)).cell? ⟨gw, 1, none⟩ = some (.slice Aw a.length cw) := (blk_cell (blk_below BXw.out hbz) 1).trans rfl
 go_wp2_with fail
 clear f0 f1 f2 f3
 obtain ⟨go, hgo⟩ : ∃ go, w11.heap.size = go := ⟨_, rfl⟩
 generalize w11.alloc (.cells #[.int .i64 vb, .slice Ao b.length co] 24) = w12 at hbx hbz ⊢
 rw [hgo] at hbx ⊢
 have HGo := Aside0.mk hgo
 have HXo := Aside0.mk hbx
 have HZo := Aside0.mk hbz
 have G12 := Aside0.mk (below_tr G11.out hbz)
 clear hgo hbx hbz G11
 have Do := HZo
 have Ca := Aside0.mk (fun (W : World) (h : Below w12.heap.size w12 W) => S_read HSa.out (below_tr Da.out (below_tr Do.out h)))
 have Ja := Aside0.mk (fun (W : World) (h : Below w12.heap.size w12 W) => blk_below BXa.out (below_tr Do.out h))
 have Cb := Aside0.mk (fun (W : World) (h : Below w12.heap.size w12 W) => S_read HSb.out (below_tr Db.out (below_tr Do.out h)))
 have Jb := Aside0.mk (fun (W : World) (h : Below w12.heap.size w12 W) => blk_below BXb.out (below_tr Do.out h))
 have Cc := Aside0.mk (fun (W : World) (h : Below w12.heap.size w12 W) => S_read HSc.out (below_tr Dc.out (below_tr Do.out h)))
 have Jc := Aside0.mk (fun (W : World) (h : Below w12.heap.size w12 W) => blk_below BXc.out (below_tr Do.out h))
 have Cd := Aside0.mk (fun (W : World) (h : Below w12.heap.size w12 W) => S_read HSd.out (below_tr Dd.out (below_tr Do.out h)))
 have Jd := Aside0.mk (fun (W : World) (h : Below w12.heap.size w12 W) => blk_below BXd.out (below_tr Do.out h))
 have Cw := Aside0.mk (fun (W : World) (h : Below w12.heap.size w12 W) => S_read HSw.out (below_tr Dw.out (below_tr Do.out h)))
 have Jw := Aside0.mk (fun (W : World) (h : Below w12.heap.size w12 W) => blk_below BXw.out (below_tr Do.out h))
 have Co := Aside0.mk (fun (W : World) (h : Below w12.heap.size w12 W) => S_read HSo.out (below_tr Do.out h))
 have Jo := Aside0.mk (fun (W : World) (h : Below w12.heap.size w12 W) => blk_below HXo.out h)
 have Y0 := Aside0.mk (Below.refl w12.heap.size w12)
 clear BXa BXb BXc BXd BXw HXo
 have p0 := Ca.out _ Y0.out
 have q0 := Cw.out _ Y0.out
 have H0 := Aside0.mk (depotref00_SameFormula.calls k va Aa ca a va Aw cw a true _ p0.1 p0.2 q0.1 q0.2 HSA.out)
 clear p0 q0
 refine H0.out.mono ?_
 rintro e y1 ⟨rfl, hdy⟩
 have Y1 := Aside0.mk (below_tr Y0.out hdy)
 clear hdy H0 Y0
 have f0 : y1.cell? ⟨gb, 0, none⟩ = some (.int .i64 va) := (blk_cell (Jb.out _ Y1.out) 0).trans rfl
 have f1 : y1.cell? ⟨gb, 1, none⟩ = some (.slice Ab a.length cb) := (blk_cell (Jb.out _ Y1.out) 1).trans rfl
 have f2 : y1.cell? ⟨gw, 0, none⟩ = some (.int .i64 va) := (blk_cell (Jw.out _ Y1.out) 0).trans rfl
 have f3 : y1.cell? ⟨gw, 1, none⟩ = some (.slice Aw a.length cw) := (blk_cell (Jw.out _ Y1.out) 1).trans rfl
 go_wp2_with fail
 clear f0 f1 f2 f3
 have p0 := Cb.out _ Y1.out
 have q0 := Cw.out _ Y1.out
 have H1 := Aside0.mk (depotref00_SameFormula.calls k va Ab cb a va Aw cw a true _ p0.1 p0.2 q0.1 q0.2 HSA.out)
 clear p0 q0
 refine H1.out.mono ?_
 rintro e y2 ⟨rfl, hdy⟩
 have Y2 := Aside0.mk (below_tr Y1.out hdy)
 clear hdy H1 Y1
 have f0 : y2.cell? ⟨gc, 0, none⟩ = some (.int .i64 vb) := (blk_cell (Jc.out _ Y2.out) 0).trans rfl
 have f1 : y2.cell? ⟨gc, 1, none⟩ = some (.slice Ac b.length cc) := (blk_cell (Jc.out _ Y2.out) 1).trans rfl
 have f2 : y2.cell? ⟨go, 0, none⟩ = some (.int .i64 vb) := (blk_cell (Jo.out _ Y2.out) 0).trans rfl
 have f3 : y2.cell? ⟨go, 1, none⟩ = some (.slice Ao b.length co) := (blk_cell (Jo.out _ Y2.out) 1).trans rfl
 go_wp2_with fail
 clear f0 f1 f2 f3
 have p0 := Cc.out _ Y2.out
 have q0 := Co.out _ Y2.out
 have H2 := Aside0.mk (depotref00_SameFormula.calls k vb Ac cc b vb Ao co b true _ p0.1 p0.2 q0.1 q0.2 HSB.out)
 clear p0 q0
 refine H2.out.mono ?_
 rintro e y3 ⟨rfl, hdy⟩
 have Y3 := Aside0.mk (below_tr Y2.out hdy)
 clear hdy H2 Y2
 have f0 : y3.cell? ⟨gd, 0, none⟩ = some (.int .i64 va) := (blk_cell (Jd.out _ Y3.out) 0).trans rfl
 have f1 : y3.cell? ⟨gd, 1, none⟩ = some (.slice Ad a.length cd) := (blk_cell (Jd.out _ Y3.out) 1).trans rfl
 have f2 : y3.cell? ⟨gw, 0, none⟩ = some (.int .i64 va) := (blk_cell (Jw.out _ Y3.out) 0).trans rfl
 have f3 : y3.cell? ⟨gw, 1, none⟩ = some (.slice Aw a.length cw) := (blk_cell (Jw.out _ Y3.out) 1).trans rfl
 go_wp2_with fail
 clear f0 f1 f2 f3
 have p0 := Cd.out _ Y3.out
 have q0 := Cw.out _ Y3.out
 have H3 := Aside0.mk (depotref00_SameFormula.calls k va Ad cd a va Aw cw a true _ p0.1 p0.2 q0.1 q0.2 HSA.out)
 clear p0 q0
 refine H3.out.mono ?_
 rintro e y4 ⟨rfl, hdy⟩
 have Y4 := Aside0.mk (below_tr Y3.out hdy)
 clear hdy H3 Y3
 have f0 : y4.cell? ⟨ga, 0, none⟩ = some (.int .i64 va) := (blk_cell (Ja.out _ Y4.out) 0).trans rfl
 have f1 : y4.cell? ⟨ga, 1, none⟩ = some (.slice Aa a.length ca) := (blk_cell (Ja.out _ Y4.out) 1).trans rfl
 have f2 : y4.cell? ⟨gb, 0, none⟩ = some (.int .i64 va) := (blk_cell (Jb.out _ Y4.out) 0).trans rfl
 have f3 : y4.cell? ⟨gb, 1, none⟩ = some (.slice Ab a.length cb) := (blk_cell (Jb.out _ Y4.out) 1).trans rfl
 have f4 : y4.cell? ⟨gc, 0, none⟩ = some (.int .i64 vb) := (blk_cell (Jc.out _ Y4.out) 0).trans rfl
 have f5 : y4.cell? ⟨gc, 1, none⟩ = some (.slice Ac b.length cc) := (blk_cell (Jc.out _ Y4.out) 1).trans rfl
 have f6 : y4.cell? ⟨gd, 0, none⟩ = some (.int .i64 va) := (blk_cell (Jd.out _ Y4.out) 0).trans rfl
 have f7 : y4.cell? ⟨gd, 1, none⟩ = some (.slice Ad a.length cd) := (blk_cell (Jd.out _ Y4.out) 1).trans rfl
 go_wp2_with fail
 clear f0 f1 f2 f3 f4 f5 f6 f7
 have hW1 : Below w12.heap.size w12 (y4.alloc (.cells #[.int .i64 va, .slice Aa a.length ca, .int .i64 va, .slice Ab a.length cb, .int .i64 vb, .slice Ac b.length cc, .int .i64 va, .slice Ad a.length cd] 24)) := below_tr Y4.out (alloc_below _ _)
 have hV : (y4.alloc (.cells #[.int .i64 va, .slice Aa a.length ca, .int .i64 va, .slice Ab a.length cb, .int .i64 vb, .slice Ac b.length cc, .int .i64 va, .slice Ad a.length cd] 24)).ownsRow 0 24 2 (.slice (some ⟨y4.heap.size, 0, none⟩) 4 4) 4 [.int .i64 va, .slice Aa a.length ca, .int .i64 va, .slice Ab a.length cb, .int .i64 vb, .slice Ac b.length cc, .int .i64 va, .slice Ad a.length cd] := own_mk (heap_alloc_new y4 _) (Nat.zero_le _) (Nat.le_refl _) (by decide) rfl rfl rfl
 generalize y4.alloc (.cells #[.int .i64 va, .slice Aa a.length ca, .int .i64 va, .slice Ab a.length cb, .int .i64 vb, .slice Ac b.length cc, .int .i64 va, .slice Ad a.length cd] 24) = W1 at hW1 hV ⊢
 have za := HBa.out.size
 have zb := HBb.out.size
 have zc := HBc.out.size
 have zd := HBd.out.size
 have ua := HZa.out.size
 have ub := HZb.out.size
 have uc := HZc.out.size
 have ud := HZd.out.size
 have L0 := ListsR.nil W1 w.heap.size 1048577 (fourX Xa Xb Xc Xd)
 have L1 := L0.snoc (X' := fourX Xa Xb Xc Xd) (((HOa.out.below Da.out).below Do.out).below hW1) (fun _ _ => rfl) rfl (by omega) (by omega) (by omega) HA.out (fun x hx => by have := HLA.out x hx; omega)
 have L2 := L1.snoc (X' := fourX Xa Xb Xc Xd) (((HOb.out.below Db.out).below Do.out).below hW1) (fun _ _ => rfl) rfl (by omega) (by omega) (by omega) HA.out (fun x hx => by have := HLA.out x hx; omega)
 have L3 := L2.snoc (X' := fourX Xa Xb Xc Xd) (((HOc.out.below Dc.out).below Do.out).below hW1) (fun _ _ => rfl) rfl (by omega) (by omega) (by omega) HBL.out (fun x hx => by have := HLB.out x hx; omega)
 have L4 := L3.snoc (X' := fourX Xa Xb Xc Xd) (((HOd.out.below Dd.out).below Do.out).below hW1) (fun _ _ => rfl) rfl (by omega) (by omega) (by omega) HA.out (fun x hx => by have := HLA.out x hx; omega)
 have HLC := L4.calls _ _ hV (fun j v hv => by
  match j, hv with
  | 0, hv => exact hv
  | 1, hv => exact hv
  | 2, hv => exact hv
  | 3, hv => exact hv
  | j + 4, hv => simp at hv) (by simp) (by decide)
 refine HLC.mono ?_
 rintro e w' ⟨rfl, hR, hG⟩
 have hB0 : Below w.heap.size w W1 := below_tr G12.out hW1
 have hB' : Below w.heap.size w w' := ⟨hR.os.trans hB0.os, hR.tape.trans hB0.tape, hR.output.trans hB0.output, Nat.le_trans hB0.size hR.size, fun b hb => (hR.same b (Nat.lt_of_lt_of_le hb hB0.size) fun v hv e => by
  have := (hG v hv b e).1
  omega).trans (hB0.block b hb)⟩
 have hBw1 : Below w9.heap.size w9 W1 := below_tr (below_tr Dw.out Do.out) hW1
 have hs8 : w7.heap.size ≤ w8.heap.size := HZd.out.size
 have hs9 : w8.heap.size ≤ w9.heap.size := HBw.out.size
 have hgw := HGw.out
 have hS' := Kd.S_step (w1 := w') HSw.out fun k hk hlt => by
  obtain ⟨_, h1, h2, _⟩ := hk
  exact (hR.same k (Nat.lt_of_lt_of_le h2 hBw1.size) fun v hv e => by
   have := (hG v hv k e).2
   omega).trans (hBw1.block k h2)
 have hkw := Jw.out _ hW1
 have hkw' : w'.heap[gw]? = some (.cells #[.int .i64 va, .slice Aw a.length cw] 24 (0, 0)) := (hR.same gw (blk_lt hkw) fun v hv e => by
  have := (hG v hv gw e).2
  omega).trans hkw
 have HE' := Aside0.mk (HE.out.below hB')
 have HB' := Aside0.mk hB'
 have HS' := Aside0.mk hS'
 have HKW := Aside0.mk hkw'
 clear hW1 hV L0 L1 L2 L3 L4 HLC hR hG hB0 hB' hBw1 hS' hkw hkw' hs8 hs9 hgw za zb zc zd ua ub uc ud Ja Jb Jc Jd Jw Jo Ca Cb Cc Cd Cw Co
 go_wp2_with fail
 refine (dimacs_Read.calls s va a e1 n1 w' HE'.out HR1.out).mono ?_
 rintro e wz ⟨vz, rfl, hSz, hBz⟩
 obtain ⟨Az, cz, rfl⟩ := Kd.S_slice hSz
 have hbz : Below wz.heap.size wz (wz.alloc (.cells #[.int .i64 va, .slice Az a.length cz] 24)) := alloc_below _ _
 have hkw := blk_below HKW.out (below_tr hBz hbz)
 have f2 : (wz.alloc (.cells #[.int .i64 va, .slice Az a.length cz] 24)).cell? ⟨gw, 0, none⟩ = some (.int .i64 va) := (blk_cell hkw 0).trans rfl
 have f3 : (wz.alloc (.cells #[.int .i64 va, .slice Az a.length cz] 24)).cell? ⟨gw, 1, none⟩ = some (.slice Aw a.length cw) := (blk_cell hkw 1).trans rfl
 have hz := S_read hSz hbz
 have he := S_read HS'.out (below_tr hBz hbz)
 have HZ := Aside0.mk (depotref00_SameFormula.calls k va Az cz a va Aw cw a true _ hz.1 hz.2 he.1 he.2 HSA.out)
 have HBz := Aside0.mk (below_tr hBz hbz)
 clear hSz hz he hBz hbz hkw
 go_wp2_with fail
 refine HZ.out.mono ?_
 rintro e wy ⟨rfl, hdy⟩
 have HY := Aside0.mk (below_tr HB'.out (below_tr HBz.out hdy))
 clear hdy HZ f2 f3
 go_wp2
 go_ret
 exact ⟨rfl, HY.out⟩
end Go.Proofs.YtlhajfepcggjaaaGreatDoor.KP

set_option linter.unusedVariables false
set_option linter.unusedSimpArgs false
namespace Go.Proofs.YtlhajfepcggjaaaGreatDoor.KP
open Go Go.RowKit Go.Proofs.YtlhajfepcggjaaaGreatDoorW.PrintWords Go.Proofs.YtlhajfepcggjaaaGreatDoorW.PrintLast Go.Proofs.YtlhajfepcggjaaaGreatDoorW.PrintMore Go.Proofs.YtlhajfepcggjaaaGreatDoor.R

/-- A row of truths that is one's own. -/
abbrev RB (w : World) (base : Nat) (v : Value) (l : List Bool) : Prop := Kd.R Kd.bool 4 w base (fun _ => True) v l
theorem RB_read {w W : World} {base c : Nat} {A : Option Addr} {xs : List Bool} (h : RB w base (.slice A xs.length c) xs) (hb : Below w.heap.size w W) : Kd.C Kd.bool W A xs.length xs ∧ xs.length ≤ c :=
 ⟨Kd.C_below (Kd.R_reads' h).2.2 hb, (Kd.R_reads' h).2.1⟩
theorem RB_keep {w W : World} {base : Nat} {v : Value} {l : List Bool} (h : RB w base v l) (hk : ∀ b, v.ownBlock = some b → W.heap[b]? = w.heap[b]?) : RB W base v l :=
 Kd.R_mono (Kd.R_move (Kd.R_tight rfl h) (fun k hk2 => hk k hk2.symm)) (fun _ _ => trivial)
theorem RB_rng {w : World} {base : Nat} {v : Value} {l : List Bool} (h : RB w base v l) : rng base w.heap.size [v] := fun u hu k hk => by
 rw [List.mem_singleton] at hu
 subst hu
 exact ⟨Kd.R_base h k hk, Kd.R_lt h k hk⟩
theorem RB_row {w W : World} {base c : Nat} {A : Option Addr} {l : List Bool} (h : RB w base (.slice A l.length c) l) (hb : Below w.heap.size w W) : ∃ xs, W.ownsRow 0 4 1 (.slice A l.length c) (lenV (.slice A l.length c)) xs := by
 obtain ⟨xs, hx⟩ := Kd.R_own h
 exact ⟨xs, own_below (own_low hx (Nat.zero_le _)) hb⟩
set_option maxHeartbeats 16000000 in
set_option maxRecDepth 100000 in
theorem modelsApart_calls (k : Nat) (s t : ByteArray) (sa sb : Bool) (a b : List Bool) (e1 n1 e2 n2 : Int) (w : World) (hE : Env w) (hR1 : dimacs_ReadAnswer.f s = some (sa, a, e1, n1)) (hR2 : depotref03_ReadAnswer.f k s = some (sa, a, e1, n1)) (hR3 : dimacs_ReadAnswer.f t = some (sb, b, e2, n2)) (hR4 : depotref03_ReadAnswer.f k t = some (sb, b, e2, n2))
  (hSA : depotref00_SameBools.f k a a = some true) (hSB : depotref00_SameBools.f k b b = some true) (ha : a.length ≤ 1048577) (hb : b.length ≤ 1048577) :
  Calls Tryz.prog 16 #[.string s, .string t] w fun e w' => e = .returned (.bool true) ∧ Below w.heap.size w w' := by
 have HE := Aside0.mk hE
 have HR1 := Aside0.mk hR1
 have HR2 := Aside0.mk hR2
 have HR3 := Aside0.mk hR3
 have HR4 := Aside0.mk hR4
 have HSA := Aside0.mk hSA
 have HSB := Aside0.mk hSB
 have HA := Aside0.mk ha
 have HBL := Aside0.mk hb
 clear hE hR1 hR2 hR3 hR4 hSA hSB ha hb
 have G0 := Aside0.mk (Below.refl w.heap.size w)
 go_enter Tryz.func16, Tryz.ntmps16
 go_wp2_with fail
 refine (dimacs_ReadAnswer.calls s sa a e1 n1 _ (HE.out.below G0.out) HR1.out).mono ?_
 rintro e w1 ⟨va, rfl, hSa, hbz⟩
 obtain ⟨Aa, ca, rfl⟩ := Kd.R_slice hSa
 have HSa := Aside0.mk (show RB w1 w.heap.size _ a from hSa)
 have HBa := Aside0.mk hbz
 have G1 := Aside0.mk (below_tr G0.out hbz)
 clear hSa hbz G0
 go_wp2_with fail
 refine (dimacs_ReadAnswer.calls s sa a e1 n1 _ (HE.out.below G1.out) HR1.out).mono ?_
 rintro e w2 ⟨vb, rfl, hSb, hbz⟩
 obtain ⟨Ab, cb, rfl⟩ := Kd.R_slice hSb
 have HSb := Aside0.mk (show RB w2 w1.heap.size _ a from hSb)
 have HBb := Aside0.mk hbz
 have G2 := Aside0.mk (below_tr G1.out hbz)
 clear hSb hbz G1
 go_wp2_with fail
 refine (dimacs_ReadAnswer.calls t sb b e2 n2 _ (HE.out.below G2.out) HR3.out).mono ?_
 rintro e w3 ⟨vc, rfl, hSc, hbz⟩
 obtain ⟨Ac, cc, rfl⟩ := Kd.R_slice hSc
 have HSc := Aside0.mk (show RB w3 w2.heap.size _ b from hSc)
 have HBc := Aside0.mk hbz
 have G3 := Aside0.mk (below_tr G2.out hbz)
 clear hSc hbz G2
 go_wp2_with fail
 refine (depotref03_ReadAnswer.calls k s sa a e1 n1 _ (HE.out.below G3.out) HR2.out).mono ?_
 rintro e w4 ⟨vw, rfl, hSw, hbz⟩
 obtain ⟨Aw, cw, rfl⟩ := Kd.R_slice hSw
 have HSw := Aside0.mk (show RB w4 w3.heap.size _ a from hSw)
 have HBw := Aside0.mk hbz
 have G4 := Aside0.mk (below_tr G3.out hbz)
 clear hSw hbz G3
 go_wp2_with fail
 refine (depotref03_ReadAnswer.calls k t sb b e2 n2 _ (HE.out.below G4.out) HR4.out).mono ?_
 rintro e w5 ⟨vo, rfl, hSo, hbz⟩
 obtain ⟨Ao, co, rfl⟩ := Kd.R_slice hSo
 have HSo := Aside0.mk (show RB w5 w4.heap.size _ b from hSo)
 have HBo := Aside0.mk hbz
 have G5 := Aside0.mk (below_tr G4.out hbz)
 clear hSo hbz G4
 go_wp2_with fail
 have Dw := HBo
 have Dc := Aside0.mk (below_tr HBw.out Dw.out)
 have Db := Aside0.mk (below_tr HBc.out Dc.out)
 have Da := Aside0.mk (below_tr HBb.out Db.out)
 have Ca := Aside0.mk (fun (W : World) (h : Below w5.heap.size w5 W) => RB_read HSa.out (below_tr Da.out h))
 have Cb := Aside0.mk (fun (W : World) (h : Below w5.heap.size w5 W) => RB_read HSb.out (below_tr Db.out h))
 have Cc := Aside0.mk (fun (W : World) (h : Below w5.heap.size w5 W) => RB_read HSc.out (below_tr Dc.out h))
 have Cw := Aside0.mk (fun (W : World) (h : Below w5.heap.size w5 W) => RB_read HSw.out (below_tr Dw.out h))
 have Co := Aside0.mk (fun (W : World) (h : Below w5.heap.size w5 W) => RB_read HSo.out h)
 have Y0 := Aside0.mk (Below.refl w5.heap.size w5)
 have p0 := Ca.out _ Y0.out
 have q0 := Cw.out _ Y0.out
 have H0 := Aside0.mk (depotref00_SameBools.calls k Aa ca a Aw cw a true _ p0.1 p0.2 q0.1 q0.2 HSA.out)
 clear p0 q0
 refine H0.out.mono ?_
 rintro e y1 ⟨rfl, hdy⟩
 have Y1 := Aside0.mk (below_tr Y0.out hdy.below)
 clear hdy H0 Y0
 go_wp2_with fail
 have p0 := Cb.out _ Y1.out
 have q0 := Cw.out _ Y1.out
 have H1 := Aside0.mk (depotref00_SameBools.calls k Ab cb a Aw cw a true _ p0.1 p0.2 q0.1 q0.2 HSA.out)
 clear p0 q0
 refine H1.out.mono ?_
 rintro e y2 ⟨rfl, hdy⟩
 have Y2 := Aside0.mk (below_tr Y1.out hdy.below)
 clear hdy H1 Y1
 go_wp2_with fail
 have p0 := Cc.out _ Y2.out
 have q0 := Co.out _ Y2.out
 have H2 := Aside0.mk (depotref00_SameBools.calls k Ac cc b Ao co b true _ p0.1 p0.2 q0.1 q0.2 HSB.out)
 clear p0 q0
 refine H2.out.mono ?_
 rintro e y3 ⟨rfl, hdy⟩
 have Y3 := Aside0.mk (below_tr Y2.out hdy.below)
 clear hdy H2 Y2
 go_wp2_with fail
 have hW1 : Below w5.heap.size w5 (y3.alloc (.cells #[.slice Aa a.length ca, .slice Ab a.length cb, .slice Ac b.length cc] 25)) := below_tr Y3.out (alloc_below _ _)
 have hV : (y3.alloc (.cells #[.slice Aa a.length ca, .slice Ab a.length cb, .slice Ac b.length cc] 25)).ownsRow 0 25 1 (.slice (some ⟨y3.heap.size, 0, none⟩) 3 3) 3 [.slice Aa a.length ca, .slice Ab a.length cb, .slice Ac b.length cc] := own_mk (heap_alloc_new y3 _) (Nat.zero_le _) (Nat.le_refl _) (by decide) rfl rfl rfl
 generalize y3.alloc (.cells #[.slice Aa a.length ca, .slice Ab a.length cb, .slice Ac b.length cc] 25) = W1 at hW1 hV ⊢
 have za := HBa.out.size
 have zb := HBb.out.size
 have zc := HBc.out.size
 have hrow : ∀ (j : Nat) (v : Value), ([.slice Aa a.length ca, .slice Ab a.length cb, .slice Ac b.length cc] : List Value)[j]? = some v → ∃ xs, W1.ownsRow 0 4 1 v (lenV v) xs := fun j v hv => by
  match j, hv with
  | 0, hv => injection hv with hv; subst hv; exact RB_row HSa.out (below_tr Da.out hW1)
  | 1, hv => injection hv with hv; subst hv; exact RB_row HSb.out (below_tr Db.out hW1)
  | 2, hv => injection hv with hv; subst hv; exact RB_row HSc.out (below_tr Dc.out hW1)
  | j + 3, hv => simp at hv
 have r1 : rng w.heap.size w2.heap.size ([.slice Aa a.length ca] ++ [.slice Ab a.length cb]) := rng_append (rng_wide (RB_rng HSa.out) (Nat.le_refl _) (by omega)) (rng_wide (RB_rng HSb.out) (by omega) (Nat.le_refl _))
 have hG : rng w.heap.size w3.heap.size [.slice Aa a.length ca, .slice Ab a.length cb, .slice Ac b.length cc] := rng_append (rng_wide r1 (Nat.le_refl _) (by omega)) (rng_wide (RB_rng HSc.out) (by omega) (Nat.le_refl _))
 have hap : apart [.slice Aa a.length ca, .slice Ab a.length cb, .slice Ac b.length cc] := apart_rng (apart_rng (apart_one _) (apart_one _) (RB_rng HSa.out) (RB_rng HSb.out) (Nat.le_refl _)) (apart_one _) r1 (RB_rng HSc.out) (Nat.le_refl _)
 have hle : ∀ v ∈ ([.slice Aa a.length ca, .slice Ab a.length cb, .slice Ac b.length cc] : List Value), lenV v ≤ 1000000000 := fun v hv => by
  have h1 := HA.out
  have h2 := HBL.out
  simp only [List.mem_cons, List.not_mem_nil, or_false] at hv
  rcases hv with rfl | rfl | rfl
  ·show a.length ≤ _; omega
  ·show a.length ≤ _; omega
  ·show b.length ≤ _; omega
 have HLC := apartBools_calls _ [.slice Aa a.length ca, .slice Ab a.length cb, .slice Ac b.length cc] 0 W1 hV hrow hap (by simp) hle
 refine HLC.mono ?_
 rintro e w' ⟨rfl, hR⟩
 have hB0 : Below w.heap.size w W1 := below_tr G5.out hW1
 have hB' : Below w.heap.size w w' := ⟨hR.os.trans hB0.os, hR.tape.trans hB0.tape, hR.output.trans hB0.output, Nat.le_trans hB0.size hR.size, fun b hb => (hR.same b (Nat.lt_of_lt_of_le hb hB0.size) fun v hv e => by
  have := (hG v hv b e).1
  omega).trans (hB0.block b hb)⟩
 have hBw1 : Below w4.heap.size w4 W1 := below_tr Dw.out hW1
 have hS' := RB_keep (W := w') HSw.out fun k hk => by
  have h1 := Kd.R_base HSw.out k hk
  have h2 := Kd.R_lt HSw.out k hk
  exact (hR.same k (Nat.lt_of_lt_of_le h2 hBw1.size) fun v hv e => by
   have := (hG v hv k e).2
   omega).trans (hBw1.block k h2)
 have HE' := Aside0.mk (HE.out.below hB')
 have HB' := Aside0.mk hB'
 have HS' := Aside0.mk hS'
 clear hW1 hV HLC hR hG hB0 hB' hBw1 hS' za zb zc r1 hap hle hrow Ca Cb Cc Cw Co
 go_wp2_with fail
 refine (dimacs_ReadAnswer.calls s sa a e1 n1 w' HE'.out HR1.out).mono ?_
 rintro e wz ⟨vz, rfl, hSz, hBz⟩
 obtain ⟨Az, cz, rfl⟩ := Kd.R_slice hSz
 have hz := RB_read hSz (Below.refl _ _)
 have he := RB_read HS'.out hBz
 have HZ := Aside0.mk (depotref00_SameBools.calls k Az cz a Aw cw a true wz hz.1 hz.2 he.1 he.2 HSA.out)
 have HBz := Aside0.mk hBz
 clear hSz hz he hBz
 go_wp2_with fail
 refine HZ.out.mono ?_
 rintro e wy ⟨rfl, hdy⟩
 have HY := Aside0.mk (below_tr HB'.out (below_tr HBz.out hdy.below))
 clear hdy HZ
 go_wp2
 go_ret
 exact ⟨rfl, HY.out⟩
end Go.Proofs.YtlhajfepcggjaaaGreatDoor.KP

set_option linter.unusedVariables false
set_option linter.unusedSimpArgs false
namespace Go.Proofs.YtlhajfepcggjaaaGreatDoor.T
open Go.Proofs.YtlhajfepcggjaaaGreatDoor.R
open Go.RowKit Go.Lib Go.Proofs.YtlhajfepcggjaaaGreatDoorW.PrintWords Go.Proofs.YtlhajfepcggjaaaGreatDoorW.PrintLast Go.Proofs.YtlhajfepcggjaaaGreatDoorW.PrintMore
open Go.Proofs.YtlhajfepcggjaaaGreatDoor.P (wordsT clauseT clausesT headF formT litOk inV clauseOk formOk dimR)

theorem w64d {x : Int} (h0 : -9223372036854775808 ≤ x) (h1 : x ≤ 9223372036854775807) : wrap64 x = x := by
 unfold wrap64; omega
theorem succ_ofd {k d : Nat} (h : d < k) : ∃ m, k = m + 1 := ⟨k - 1, by omega⟩
theorem rd_natd {xs : List Int} {n : Nat} (h : n < xs.length) : rd xs (n : Int) = xs[n] := by
 unfold rd
 rw [Int.toNat_natCast, List.getD_eq_getElem?_getD, List.getElem?_eq_getElem h]
 rfl
theorem take_succd {α : Type} {xs : List α} {n : Nat} (h : n < xs.length) : xs.take (n + 1) = xs.take n ++ [xs[n]] := by
 rw [List.take_succ_eq_append_getElem h]
theorem rdL1_nat {xs : List (List Int)} {n : Nat} (h : n < xs.length) : rd_L3 xs (n : Int) = xs[n] := by
 unfold rd_L3
 rw [Int.toNat_natCast, List.getD_eq_getElem?_getD, List.getElem?_eq_getElem h]
 rfl
theorem copyInts_l0 (l : List Int) (hl : l.length < 17592186044416) (d : Nat) : ∀ (k i : Nat), i ≤ l.length → l.length - i = d → d < k → depotref00_CopyInts.l0 k l (l.take i) (i : Int) = some l := by
 induction d with
 | zero =>
  intro k i h0 hd hk
  obtain ⟨k, rfl⟩ := succ_ofd hk
  rw [depotref00_CopyInts.l0, if_neg (by omega), List.take_of_length_le (by omega)]
 | succ d ih =>
  intro k i h0 hd hk
  obtain ⟨k, rfl⟩ := succ_ofd hk
  rw [depotref00_CopyInts.l0, if_pos (by omega), if_pos (by omega), if_pos (by rw [List.length_take]; omega), rd_natd (by omega), ← take_succd (by omega), w64d (by omega) (by omega)]
  exact ih k (i + 1) (by omega) (by omega) (by omega)
theorem copyInts_is (l : List Int) (hl : l.length < 17592186044416) (k : Nat) (hk : l.length < k) : depotref00_CopyInts.f k l = some l := by
 unfold depotref00_CopyInts.f
 exact copyInts_l0 l hl l.length k 0 (by omega) (by omega) hk
theorem copyClauses_l0 (l : List (List Int)) (m : Nat) (hm : ∀ c ∈ l, c.length ≤ m) (hm2 : m < 17592186044416) (hl : l.length < 4398046511104) (d : Nat) : ∀ (k i : Nat), i ≤ l.length → l.length - i = d → d + m + 1 < k → depotref00_CopyClauses.l0 k l (l.take i) (i : Int) = some l := by
 induction d with
 | zero =>
  intro k i h0 hd hk
  obtain ⟨k, rfl⟩ := succ_ofd hk
  rw [depotref00_CopyClauses.l0, if_neg (by omega), List.take_of_length_le (by omega)]
 | succ d ih =>
  intro k i h0 hd hk
  obtain ⟨k, rfl⟩ := succ_ofd hk
  have hs := hm l[i] (List.getElem_mem (by omega))
  rw [depotref00_CopyClauses.l0, if_pos (by omega), if_pos (by omega), rdL1_nat (by omega), copyInts_is _ (by omega) _ (by omega)]
  simp only [Option.bind_some]
  rw [if_pos (by rw [List.length_take]; omega), ← take_succd (by omega), w64d (by omega) (by omega)]
  exact ih k (i + 1) (by omega) (by omega) (by omega)
theorem copyFormula_is (v : Int) (l : List (List Int)) (m : Nat) (hm : ∀ c ∈ l, c.length ≤ m) (hm2 : m < 17592186044416) (hl : l.length < 4398046511104) (k : Nat) (hk : l.length + m + 1 < k) : depotref00_CopyFormula.f k v l = some (v, l) := by
 unfold depotref00_CopyFormula.f depotref00_CopyClauses.f
 have := copyClauses_l0 l m hm hm2 hl l.length k 0 (by omega) (by omega) hk
 rw [show (0 : Int) = ((0 : Nat) : Int) from rfl, show ([] : List (List Int)) = l.take 0 from rfl, this]
 rfl
theorem sameInts_l0 (l : List Int) (hl : l.length ≤ 4398046511104) (d : Nat) : ∀ (k i : Nat), i ≤ l.length → l.length - i = d → d < k → depotref00_SameInts.l0 k l l (i : Int) = some true := by
 induction d with
 | zero =>
  intro k i h0 hd hk
  obtain ⟨k, rfl⟩ := succ_ofd hk
  rw [depotref00_SameInts.l0, if_neg (by omega)]
 | succ d ih =>
  intro k i h0 hd hk
  obtain ⟨k, rfl⟩ := succ_ofd hk
  rw [depotref00_SameInts.l0, if_pos (by omega), if_pos (by omega), if_pos (by omega), if_pos rfl, w64d (by omega) (by omega)]
  exact ih k (i + 1) (by omega) (by omega) (by omega)
theorem sameInts_self (l : List Int) (hl : l.length ≤ 4398046511104) (k : Nat) (hk : l.length < k) : depotref00_SameInts.f k l l = some true := by
 unfold depotref00_SameInts.f
 rw [if_pos rfl]
 exact sameInts_l0 l hl l.length k 0 (by omega) (by omega) hk
theorem sameClauses_l0 (l : List (List Int)) (m : Nat) (hm : ∀ c ∈ l, c.length ≤ m) (hm2 : m ≤ 4398046511104) (hl : l.length < 4398046511104) (d : Nat) : ∀ (k i : Nat), i ≤ l.length → l.length - i = d → d + m + 1 < k → depotref00_SameClauses.l0 k l l (i : Int) = some true := by
 induction d with
 | zero =>
  intro k i h0 hd hk
  obtain ⟨k, rfl⟩ := succ_ofd hk
  rw [depotref00_SameClauses.l0, if_neg (by omega)]
 | succ d ih =>
  intro k i h0 hd hk
  obtain ⟨k, rfl⟩ := succ_ofd hk
  have hs := hm l[i] (List.getElem_mem (by omega))
  rw [depotref00_SameClauses.l0, if_pos (by omega), if_pos (by omega), if_pos (by omega), rdL1_nat (by omega), sameInts_self _ (by omega) _ (by omega)]
  simp only [Option.bind_some]
  rw [if_pos trivial, w64d (by omega) (by omega)]
  exact ih k (i + 1) (by omega) (by omega) (by omega)
theorem sameFormula_self (v : Int) (l : List (List Int)) (m : Nat) (hm : ∀ c ∈ l, c.length ≤ m) (hm2 : m ≤ 4398046511104) (hl : l.length < 4398046511104) (k : Nat) (hk : l.length + m + 1 < k) : depotref00_SameFormula.f k v l v l = some true := by
 unfold depotref00_SameFormula.f depotref00_SameClauses.f
 have := sameClauses_l0 l m hm hm2 hl l.length k 0 (by omega) (by omega) hk
 rw [if_pos rfl, if_pos rfl, show (0 : Int) = ((0 : Nat) : Int) from rfl, this]
 rfl
end Go.Proofs.YtlhajfepcggjaaaGreatDoor.T

set_option linter.unusedVariables false
set_option linter.unusedSimpArgs false
namespace Go.Proofs.YtlhajfepcggjaaaGreatDoor.KP
open Go Go.RowKit Go.Proofs.YtlhajfepcggjaaaGreatDoorW.PrintWords Go.Proofs.YtlhajfepcggjaaaGreatDoorW.PrintLast Go.Proofs.YtlhajfepcggjaaaGreatDoorW.PrintMore Go.Proofs.YtlhajfepcggjaaaGreatDoor.R
open Go.Proofs.YtlhajfepcggjaaaGreatDoor.T (w64d succ_ofd rd_natd take_succd rdL1_nat)

theorem headsR_own (l : List (List Int)) : headsR l (RsL l) = l := by
 apply List.ext_getElem?
 intro j
 rcases Nat.lt_or_ge j l.length with hj | hj
 ·have hx := List.getElem?_eq_getElem hj
  rw [headsR_at hx (RsL_at hx), hx, List.take_left]
 ·rw [List.getElem?_eq_none (by rw [headsR_len]; omega), List.getElem?_eq_none hj]
theorem mark_is (k i : Nat) (hk : k ≤ 100) (hi : i ≤ 1000) : depotkit_mark.f (k : Int) (i : Int) = some (mkv k i) := by
 unfold depotkit_mark.f mkv
 first
  | rfl
  | (congr 1)
theorem mark_is0 (i : Nat) (hi : i ≤ 1000) : depotkit_mark.f 0 (i : Int) = some (mkv 0 i) := mark_is 0 i (by omega) hi
theorem mark_is1 (i : Nat) (hi : i ≤ 1000) : depotkit_mark.f 1 (i : Int) = some (mkv 1 i) := mark_is 1 i (by omega) hi
theorem marksL_at {i : Nat} (h : i < 64) : marksL[i]? = some (mkv 0 i) := by
 unfold marksL
 rw [List.getElem?_map, List.getElem?_range h]
 rfl
theorem marksL_take {i : Nat} (h : i < 64) : marksL.take (i + 1) = marksL.take i ++ [mkv 0 i] := by
 rw [List.take_add_one, marksL_at h]
 rfl
theorem kept_l1 (x : List Int) (hx : x.length ≤ 1000000000) (d : Nat) : ∀ (k i : Nat), i ≤ 64 → 64 - i = d → d < k → depotkit_Kept.l1 k (x ++ marksL) x (i : Int) = some true := by
 induction d with
 | zero =>
  intro k i h0 hd hk
  obtain ⟨k, rfl⟩ := succ_ofd hk
  rw [depotkit_Kept.l1, if_neg (by omega)]
 | succ d ih =>
  intro k i h0 hd hk
  obtain ⟨k, rfl⟩ := succ_ofd hk
  have e1 : wrap64 ((x.length : Int) + (i : Int)) = ((x.length + i : Nat) : Int) := by rw [w64d (by omega) (by omega)]; omega
  have e2 : wrap64 ((i : Int) + 1) = ((i + 1 : Nat) : Int) := by rw [w64d (by omega) (by omega)]; omega
  have hl : (x ++ marksL).length = x.length + 64 := by rw [List.length_append, marksL_len]
  have e3 : rd (x ++ marksL) ((x.length + i : Nat) : Int) = mkv 0 i := by
   rw [rd_natd (by omega)]
   have h1 : (x ++ marksL)[x.length + i]? = some (mkv 0 i) := by
    rw [List.getElem?_append_right (by omega), show x.length + i - x.length = i by omega, marksL_at (by omega)]
   exact (List.getElem?_eq_some_iff.1 h1).2
  rw [depotkit_Kept.l1, if_pos (by omega), e1, if_pos (by omega), if_pos (by omega), mark_is0 i (by omega)]
  simp only [Option.bind_some]
  rw [if_pos e3, e2]
  exact ih k (i + 1) (by omega) (by omega) (by omega)
theorem kept_l0 (x : List Int) (hx : x.length ≤ 1000000000) (d : Nat) : ∀ (k i : Nat), i ≤ x.length → x.length - i = d → d + 66 < k → depotkit_Kept.l0 k (x ++ marksL) x (i : Int) = some true := by
 induction d with
 | zero =>
  intro k i h0 hd hk
  obtain ⟨k, rfl⟩ := succ_ofd hk
  rw [depotkit_Kept.l0, if_neg (by omega)]
  exact kept_l1 x hx 64 k 0 (by omega) (by omega) (by omega)
 | succ d ih =>
  intro k i h0 hd hk
  obtain ⟨k, rfl⟩ := succ_ofd hk
  have hl : (x ++ marksL).length = x.length + 64 := by rw [List.length_append, marksL_len]
  have e2 : wrap64 ((i : Int) + 1) = ((i + 1 : Nat) : Int) := by rw [w64d (by omega) (by omega)]; omega
  rw [depotkit_Kept.l0, if_pos (by omega), if_pos (by omega), if_pos (by omega), if_pos (by rw [rd_natd (by omega), rd_natd (by omega), List.getElem_append_left (by omega)]), e2]
  exact ih k (i + 1) (by omega) (by omega) (by omega)
theorem kept_is (x : List Int) (hx : x.length ≤ 1000000000) (k : Nat) (hk : x.length + 66 < k) : depotkit_Kept.f k (x ++ marksL) x = some true := by
 unfold depotkit_Kept.f
 rw [if_pos (by rw [List.length_append, marksL_len, w64d (by omega) (by omega)]; omega)]
 exact kept_l0 x hx x.length k 0 (by omega) (by omega) hk
theorem lent_l1 (x : List Int) (hx : x.length ≤ 1000000000) (d : Nat) : ∀ (k i : Nat), i ≤ 64 → 64 - i = d → d < k → depotkit_Lent.l1 k (x ++ marksL.take i) (i : Int) = some (x ++ marksL) := by
 induction d with
 | zero =>
  intro k i h0 hd hk
  obtain ⟨k, rfl⟩ := succ_ofd hk
  rw [depotkit_Lent.l1, if_neg (by omega), List.take_of_length_le (by rw [marksL_len]; omega)]
 | succ d ih =>
  intro k i h0 hd hk
  obtain ⟨k, rfl⟩ := succ_ofd hk
  have e2 : wrap64 ((i : Int) + 1) = ((i + 1 : Nat) : Int) := by rw [w64d (by omega) (by omega)]; omega
  rw [depotkit_Lent.l1, if_pos (by omega), mark_is0 i (by omega)]
  simp only [Option.bind_some]
  rw [if_pos (by rw [List.length_append, List.length_take]; omega), e2, List.append_assoc, ← marksL_take (by omega)]
  exact ih k (i + 1) (by omega) (by omega) (by omega)
theorem lent_l0 (x : List Int) (hx : x.length ≤ 1000000000) (d : Nat) : ∀ (k i : Nat), i ≤ x.length → x.length - i = d → d + 66 < k → depotkit_Lent.l0 k x (x.take i) (i : Int) = some (x ++ marksL) := by
 induction d with
 | zero =>
  intro k i h0 hd hk
  obtain ⟨k, rfl⟩ := succ_ofd hk
  rw [depotkit_Lent.l0, if_neg (by omega), List.take_of_length_le (by omega)]
  have := lent_l1 x hx 64 k 0 (by omega) (by omega) (by omega)
  simpa using this
 | succ d ih =>
  intro k i h0 hd hk
  obtain ⟨k, rfl⟩ := succ_ofd hk
  have e2 : wrap64 ((i : Int) + 1) = ((i + 1 : Nat) : Int) := by rw [w64d (by omega) (by omega)]; omega
  rw [depotkit_Lent.l0, if_pos (by omega), if_pos (by omega), if_pos (by rw [List.length_take]; omega), rd_natd (by omega), ← take_succd (by omega), e2]
  exact ih k (i + 1) (by omega) (by omega) (by omega)
theorem lent_is (x : List Int) (hx : x.length ≤ 1000000000) (k : Nat) (hk : x.length + 66 < k) : depotkit_Lent.f k x = some (x ++ marksL) := lent_l0 x hx x.length k 0 (by omega) (by omega) hk
theorem over_l0 (d : Nat) : ∀ (k i : Nat) (x : List Int), x.length ≤ 1000000000 → i ≤ x.length → x.length - i = d → d < k → ∃ y, depotkit_Over.l0 k x (i : Int) = some y := by
 induction d with
 | zero =>
  intro k i x hx h0 hd hk
  obtain ⟨k, rfl⟩ := succ_ofd hk
  rw [depotkit_Over.l0, if_neg (by omega)]
  exact ⟨_, rfl⟩
 | succ d ih =>
  intro k i x hx h0 hd hk
  obtain ⟨k, rfl⟩ := succ_ofd hk
  have e2 : wrap64 ((i : Int) + 1) = ((i + 1 : Nat) : Int) := by rw [w64d (by omega) (by omega)]; omega
  rw [depotkit_Over.l0, if_pos (by omega), if_pos (by omega), e2]
  exact ih k (i + 1) _ (by rw [List.length_set]; exact hx) (by rw [List.length_set]; omega) (by rw [List.length_set]; omega) (by omega)
theorem over_is (x : List Int) (hx : x.length ≤ 1000000000) (k : Nat) (hk : x.length < k) : ∃ y, depotkit_Over.f k x = some y := over_l0 x.length k 0 x hx (by omega) (by omega) hk
theorem keptR_at (l : List (List Int)) (i : Nat) (hi : i < 64) : ∃ v : Int, rd_L3 (l ++ behL) ((l.length + i : Nat) : Int) = [v] ∧ depotkit_mark.f 1 (i : Int) = some v := by
 have hll : (l ++ behL).length = l.length + 64 := by rw [List.length_append, behL_len]
 refine ⟨mkv 1 i, ?_, mark_is1 i (by omega)⟩
 rw [rdL1_nat (by omega)]
 have h1 : (l ++ behL)[l.length + i]? = some [mkv 1 i] := by
  rw [List.getElem?_append_right (by omega), show l.length + i - l.length = i by omega, behL_at (by omega)]
 exact (List.getElem?_eq_some_iff.1 h1).2
theorem keptR_l2 (l : List (List Int)) (hl : l.length ≤ 1000000000) (d : Nat) : ∀ (k i : Nat), i ≤ 64 → 64 - i = d → d < k → depotkit_KeptRows.l2 k l (i : Int) l (l ++ behL) (RsL l) = some true := by
 induction d with
 | zero =>
  intro k i h0 hd hk
  obtain ⟨k, rfl⟩ := succ_ofd hk
  rw [depotkit_KeptRows.l2, if_neg (by omega)]
 | succ d ih =>
  intro k i h0 hd hk
  obtain ⟨k, rfl⟩ := succ_ofd hk
  have e1 : wrap64 ((l.length : Int) + (i : Int)) = ((l.length + i : Nat) : Int) := by rw [w64d (by omega) (by omega)]; omega
  have e2 : wrap64 ((i : Int) + 1) = ((i + 1 : Nat) : Int) := by rw [w64d (by omega) (by omega)]; omega
  obtain ⟨v, e3, e4⟩ := keptR_at l i (by omega)
  have hll : (l ++ behL).length = l.length + 64 := by rw [List.length_append, behL_len]
  have hn := ih k (i + 1) (by omega) (by omega) (by omega)
  rw [← e2] at hn
  obtain ⟨L2, hL2⟩ : ∃ L2, l ++ behL = L2 := ⟨_, rfl⟩
  obtain ⟨R, hR⟩ : ∃ R, RsL l = R := ⟨_, rfl⟩
  rw [hL2, hR] at hn ⊢
  rw [hL2] at e3 hll
  clear hL2 hR ih
  rw [depotkit_KeptRows.l2]
  rw [if_pos (show (i : Int) < 64 by omega)]
  rw [e1]
  rw [if_pos (show (0 : Int) ≤ ((l.length + i : Nat) : Int) by omega)]
  rw [if_pos (show ((l.length + i : Nat) : Int) < (L2.length : Int) by omega)]
  rw [e3]
  rw [if_pos (show (([v] : List Int).length : Int) = 1 from rfl)]
  rw [if_pos (show (0 : Int) < (([v] : List Int).length : Int) from Int.zero_lt_one)]
  rw [e4]
  simp only [Option.bind_some]
  rw [if_pos (show rd [v] 0 = v from rfl)]
  exact hn
theorem keptR_l1 (l : List (List Int)) (t : Nat) (ht : t < l.length) (hl : l.length ≤ 1000000000) (hf : l[t].length ≤ 1000000000) (K : Nat) (r : Bool) (hr : ∀ k, K < k → depotkit_KeptRows.l0 k l ((t + 1 : Nat) : Int) l (l ++ behL) (RsL l) = some r) (d : Nat) :
  ∀ (k i : Nat), i ≤ l[t].length → l[t].length - i = d → d + K + 1 < k → depotkit_KeptRows.l1 k l (t : Int) l[t] (i : Int) l (l ++ behL) (RsL l) = some r := by
 induction d with
 | zero =>
  intro k i h0 hd hk
  obtain ⟨k, rfl⟩ := succ_ofd hk
  have e2 : wrap64 ((t : Int) + 1) = ((t + 1 : Nat) : Int) := by rw [w64d (by omega) (by omega)]; omega
  rw [depotkit_KeptRows.l1, if_neg (by omega), e2]
  exact hr k (by omega)
 | succ d ih =>
  intro k i h0 hd hk
  obtain ⟨k, rfl⟩ := succ_ofd hk
  have e2 : wrap64 ((i : Int) + 1) = ((i + 1 : Nat) : Int) := by rw [w64d (by omega) (by omega)]; omega
  rw [depotkit_KeptRows.l1, if_pos (by omega), if_pos (by omega), if_pos (by omega), if_pos (by omega), rdL1_nat ht, if_pos (by omega), if_pos rfl, e2]
  exact ih k (i + 1) (by omega) (by omega) (by omega)
theorem keptR_l0 (l : List (List Int)) (hl : l.length ≤ 1000000000) (M : Nat) (hM : M ≤ 1000000000) (hm : ∀ s ∈ l, s.length ≤ M) (d : Nat) : ∀ (k t : Nat), t ≤ l.length → l.length - t = d → d * (M + 70) + 70 < k → depotkit_KeptRows.l0 k l (t : Int) l (l ++ behL) (RsL l) = some true := by
 induction d with
 | zero =>
  intro k t h0 hd hk
  obtain ⟨k, rfl⟩ := succ_ofd hk
  rw [depotkit_KeptRows.l0, if_neg (by omega)]
  exact keptR_l2 l hl 64 k 0 (by omega) (by omega) (by omega)
 | succ d ih =>
  intro k t h0 hd hk
  have hsucc : (d + 1) * (M + 70) = d * (M + 70) + (M + 70) := by rw [Nat.add_mul, Nat.one_mul]
  obtain ⟨k, rfl⟩ := succ_ofd hk
  have ht : t < l.length := by omega
  have hf := hm l[t] (List.getElem_mem ht)
  have hll : (l ++ behL).length = l.length + 64 := by rw [List.length_append, behL_len]
  have hrl : (RsL l).length = l.length := RsL_len l
  have e1 : rd_L3 (l ++ behL) (t : Int) = l[t] := by rw [rdL1_nat (by omega), List.getElem_append_left ht]
  have e3 : rd_L3 (RsL l) (t : Int) = l[t] ++ marksL := by
   unfold rd_L3
   rw [Int.toNat_natCast, List.getD_eq_getElem?_getD, RsL_at (List.getElem?_eq_getElem ht)]
   rfl
  rw [depotkit_KeptRows.l0, if_pos (by omega), if_pos (by omega), if_pos (by omega), e1, rdL1_nat ht, if_pos rfl, if_pos (by omega), e3, kept_is _ (by omega) _ (by omega)]
  simp only [Option.bind_some]
  obtain ⟨k, rfl⟩ := succ_ofd (show 0 < k by omega)
  rw [depotkit_KeptRows.j2, if_neg (by decide)]
  exact keptR_l1 l t ht hl (by omega) (d * (M + 70) + 70) true (fun k hk => ih k (t + 1) (by omega) (by omega) hk) l[t].length k 0 (by omega) (by omega) (by omega)
theorem keptR_is (l : List (List Int)) (hl : l.length ≤ 1000000000) (M : Nat) (hM : M ≤ 1000000000) (hm : ∀ s ∈ l, s.length ≤ M) (k : Nat) (hk : l.length * (M + 70) + 72 < k) : depotkit_KeptRows.f k l (l ++ behL) (RsL l) l = some true := by
 unfold depotkit_KeptRows.f
 rw [if_pos (by rw [List.length_append, behL_len, w64d (by omega) (by omega)]; omega)]
 obtain ⟨k, rfl⟩ := succ_ofd (show 0 < k by omega)
 rw [depotkit_KeptRows.j0, if_neg (by rw [RsL_len]; simp)]
 exact keptR_l0 l hl M hM hm l.length k 0 (by omega) (by omega) (by omega)
/-- The truths behind a list. -/
def marksB : List Bool := (List.range 64).map fun i : Nat => (Int.tmod (i : Int) 3 == 0)
theorem marksB_len : marksB.length = 64 := by unfold marksB; simp
theorem marksB_at {i : Nat} (h : i < 64) : marksB[i]? = some (Int.tmod (i : Int) 3 == 0) := by
 unfold marksB
 rw [List.getElem?_map, List.getElem?_range h]
 rfl
theorem marksB_take {i : Nat} (h : i < 64) : marksB.take (i + 1) = marksB.take i ++ [Int.tmod (i : Int) 3 == 0] := by
 rw [List.take_add_one, marksB_at h]
 rfl
theorem rdB_nat {xs : List Bool} {n : Nat} (h : n < xs.length) : rdOf false xs (n : Int) = xs[n] := by
 unfold rdOf
 rw [Int.toNat_natCast, List.getD_eq_getElem?_getD, List.getElem?_eq_getElem h]
 rfl
theorem lentB_l1 (x : List Bool) (hx : x.length ≤ 1000000000) (d : Nat) : ∀ (k i : Nat), i ≤ 64 → 64 - i = d → d < k → depotkit_LentBools.l1 k (x ++ marksB.take i) (i : Int) = some (x ++ marksB) := by
 induction d with
 | zero =>
  intro k i h0 hd hk
  obtain ⟨k, rfl⟩ := succ_ofd hk
  rw [depotkit_LentBools.l1, if_neg (by omega), List.take_of_length_le (by rw [marksB_len]; omega)]
 | succ d ih =>
  intro k i h0 hd hk
  obtain ⟨k, rfl⟩ := succ_ofd hk
  have e2 : wrap64 ((i : Int) + 1) = ((i + 1 : Nat) : Int) := by rw [w64d (by omega) (by omega)]; omega
  rw [depotkit_LentBools.l1, if_pos (by omega), if_pos (by rw [List.length_append, List.length_take]; omega), e2, List.append_assoc, ← marksB_take (by omega)]
  exact ih k (i + 1) (by omega) (by omega) (by omega)
theorem takeB_succ {xs : List Bool} {n : Nat} (h : n < xs.length) : xs.take (n + 1) = xs.take n ++ [xs[n]] := List.take_succ_eq_append_getElem h
theorem lentB_l0 (x : List Bool) (hx : x.length ≤ 1000000000) (d : Nat) : ∀ (k i : Nat), i ≤ x.length → x.length - i = d → d + 66 < k → depotkit_LentBools.l0 k x (x.take i) (i : Int) = some (x ++ marksB) := by
 induction d with
 | zero =>
  intro k i h0 hd hk
  obtain ⟨k, rfl⟩ := succ_ofd hk
  rw [depotkit_LentBools.l0, if_neg (by omega), List.take_of_length_le (by omega)]
  have := lentB_l1 x hx 64 k 0 (by omega) (by omega) (by omega)
  simpa using this
 | succ d ih =>
  intro k i h0 hd hk
  obtain ⟨k, rfl⟩ := succ_ofd hk
  have e2 : wrap64 ((i : Int) + 1) = ((i + 1 : Nat) : Int) := by rw [w64d (by omega) (by omega)]; omega
  rw [depotkit_LentBools.l0, if_pos (by omega), if_pos (by omega), if_pos (by rw [List.length_take]; omega), rdB_nat (by omega), ← takeB_succ (by omega), e2]
  exact ih k (i + 1) (by omega) (by omega) (by omega)
theorem lentB_is (x : List Bool) (hx : x.length ≤ 1000000000) (k : Nat) (hk : x.length + 66 < k) : depotkit_LentBools.f k x = some (x ++ marksB) := lentB_l0 x hx x.length k 0 (by omega) (by omega) hk
theorem keptB_l1 (x : List Bool) (hx : x.length ≤ 1000000000) (d : Nat) : ∀ (k i : Nat), i ≤ 64 → 64 - i = d → d < k → depotkit_KeptBools.l1 k (x ++ marksB) x (i : Int) = some true := by
 induction d with
 | zero =>
  intro k i h0 hd hk
  obtain ⟨k, rfl⟩ := succ_ofd hk
  rw [depotkit_KeptBools.l1, if_neg (by omega)]
 | succ d ih =>
  intro k i h0 hd hk
  obtain ⟨k, rfl⟩ := succ_ofd hk
  have e1 : wrap64 ((x.length : Int) + (i : Int)) = ((x.length + i : Nat) : Int) := by rw [w64d (by omega) (by omega)]; omega
  have e2 : wrap64 ((i : Int) + 1) = ((i + 1 : Nat) : Int) := by rw [w64d (by omega) (by omega)]; omega
  have hl : (x ++ marksB).length = x.length + 64 := by rw [List.length_append, marksB_len]
  have e3 : rdOf false (x ++ marksB) ((x.length + i : Nat) : Int) = (Int.tmod (i : Int) 3 == 0) := by
   rw [rdB_nat (by omega)]
   have h1 : (x ++ marksB)[x.length + i]? = some (Int.tmod (i : Int) 3 == 0) := by
    rw [List.getElem?_append_right (by omega), show x.length + i - x.length = i by omega, marksB_at (by omega)]
   exact (List.getElem?_eq_some_iff.1 h1).2
  rw [depotkit_KeptBools.l1, if_pos (by omega), e1, if_pos (by omega), if_pos (by omega), e3]
  have hn := ih k (i + 1) (by omega) (by omega) (by omega)
  rw [← e2] at hn
  first
   | (rw [if_neg (by simp)]; exact hn)
   | (rw [if_pos (by simp)]; exact hn)
   | (simp only [bne_self_eq_false, Bool.false_eq_true, if_false]; exact hn)
theorem keptB_l0 (x : List Bool) (hx : x.length ≤ 1000000000) (d : Nat) : ∀ (k i : Nat), i ≤ x.length → x.length - i = d → d + 66 < k → depotkit_KeptBools.l0 k (x ++ marksB) x (i : Int) = some true := by
 induction d with
 | zero =>
  intro k i h0 hd hk
  obtain ⟨k, rfl⟩ := succ_ofd hk
  rw [depotkit_KeptBools.l0, if_neg (by omega)]
  exact keptB_l1 x hx 64 k 0 (by omega) (by omega) (by omega)
 | succ d ih =>
  intro k i h0 hd hk
  obtain ⟨k, rfl⟩ := succ_ofd hk
  have hl : (x ++ marksB).length = x.length + 64 := by rw [List.length_append, marksB_len]
  have e2 : wrap64 ((i : Int) + 1) = ((i + 1 : Nat) : Int) := by rw [w64d (by omega) (by omega)]; omega
  have e3 : rdOf false (x ++ marksB) (i : Int) = x[i] := by rw [rdB_nat (by omega), List.getElem_append_left (by omega)]
  have e4 : rdOf false x (i : Int) = x[i] := rdB_nat (by omega)
  have hn := ih k (i + 1) (by omega) (by omega) (by omega)
  rw [← e2] at hn
  rw [depotkit_KeptBools.l0, if_pos (by omega), if_pos (by omega), if_pos (by omega), e3, e4]
  first
   | (rw [if_neg (by simp)]; exact hn)
   | (rw [if_pos (by simp)]; exact hn)
   | (simp only [bne_self_eq_false, Bool.false_eq_true, if_false]; exact hn)
theorem keptB_is (x : List Bool) (hx : x.length ≤ 1000000000) (k : Nat) (hk : x.length + 66 < k) : depotkit_KeptBools.f k (x ++ marksB) x = some true := by
 unfold depotkit_KeptBools.f
 rw [if_pos (by rw [List.length_append, marksB_len, w64d (by omega) (by omega)]; omega)]
 exact keptB_l0 x hx x.length k 0 (by omega) (by omega) hk
theorem overB_l0 (d : Nat) : ∀ (k i : Nat) (x : List Bool), x.length ≤ 1000000000 → i ≤ x.length → x.length - i = d → d < k → ∃ y, depotkit_OverBools.l0 k x (i : Int) = some y ∧ y.length = x.length := by
 induction d with
 | zero =>
  intro k i x hx h0 hd hk
  obtain ⟨k, rfl⟩ := succ_ofd hk
  rw [depotkit_OverBools.l0, if_neg (by omega)]
  exact ⟨_, rfl, rfl⟩
 | succ d ih =>
  intro k i x hx h0 hd hk
  obtain ⟨k, rfl⟩ := succ_ofd hk
  have e2 : wrap64 ((i : Int) + 1) = ((i + 1 : Nat) : Int) := by rw [w64d (by omega) (by omega)]; omega
  rw [depotkit_OverBools.l0, if_pos (by omega), if_pos (by omega), e2]
  obtain ⟨y, h1, h2⟩ := ih k (i + 1) (x.set (i : Int).toNat (!(rdOf false x (i : Int)))) (by rw [List.length_set]; exact hx) (by rw [List.length_set]; omega) (by rw [List.length_set]; omega) (by omega)
  rw [List.length_set] at h2
  exact ⟨y, h1, h2⟩
theorem overB_is (x : List Bool) (hx : x.length ≤ 1000000000) (k : Nat) (hk : x.length < k) : ∃ y, depotkit_OverBools.f k x = some y ∧ y.length = x.length := overB_l0 x.length k 0 x hx (by omega) (by omega) hk
end Go.Proofs.YtlhajfepcggjaaaGreatDoor.KP

set_option linter.unusedVariables false
set_option linter.unusedSimpArgs false
namespace Go.Proofs.YtlhajfepcggjaaaGreatDoor.KP
open Go Go.RowKit Go.Proofs.YtlhajfepcggjaaaGreatDoorW.PrintWords Go.Proofs.YtlhajfepcggjaaaGreatDoorW.PrintLast Go.Proofs.YtlhajfepcggjaaaGreatDoorW.PrintMore Go.Proofs.YtlhajfepcggjaaaGreatDoor.R
open Go.Proofs.YtlhajfepcggjaaaGreatDoor.P (dimR saysT)

/-- The kind of a list of rows. -/
abbrev kR : Kd (List Int) := Kd.slice 3 (Kd.int .i64)
section
variable {A : Option Addr} {c n k : Nat} {v : Int} {x : List (List Int)} {r1 : ByteArray} {r2 : Int} {w : World}
theorem writeN (hn : x.length = n) (hr : Kd.C kR w A n x) (hc : n ≤ c) (hE : Env w) (h : P.dimacs_Write.f v x = some (r1, r2)) : Calls Tryz.prog 5 #[.agg #[.int .i64 v, .slice A n c]] w fun e w' => e = .returned (.tuple #[.string r1, .int .i64 r2]) ∧ Below w.heap.size w w' := by
 subst hn
 exact P.dimacs_Write.calls v A c x r1 r2 w hr hc hE h
theorem refwriteN (hn : x.length = n) (hr : Kd.C kR w A n x) (hc : n ≤ c) (hE : Env w) (h : P.depotref03_Write.f v x = some (r1, r2)) : Calls Tryz.prog 6 #[.agg #[.int .i64 v, .slice A n c]] w fun e w' => e = .returned (.tuple #[.string r1, .int .i64 r2]) ∧ Below w.heap.size w w' := by
 subst hn
 exact P.depotref03_Write.calls v A c x r1 r2 w hr hc hE h
theorem keptN {l ins whole : List (List Int)} {Rs : List (List Int)} {Ai Ar Al Aw : Option Addr} {ci cr cl cw ni nr nw : Nat} (hni : ins.length = ni) (hnw : whole.length = nw) (hnr : Rs.length = nr) (hi : Kd.C kR w Ai ni ins) (hci : ni ≤ ci) (hw : Kd.C kR w Aw nw whole) (hcw : nw ≤ cw) (hr : Kd.C kR w Ar nr Rs) (hcr : nr ≤ cr) (hl : Kd.C kR w Al l.length l) (hcl : l.length ≤ cl) (h : depotkit_KeptRows.f k ins whole Rs l = some true) :
  Calls Tryz.prog 7 #[.agg #[.slice Ai ni ci, .slice Aw nw cw, .slice Ar nr cr], .slice Al l.length cl] w fun e w' => e = .returned (.bool true) ∧ Below w.heap.size w w' := by
 subst hni hnr hnw
 exact depotkit_KeptRows.calls k Ai ci ins Aw cw whole Ar cr Rs Al cl l true w hi hci hw hcw hr hcr hl hcl h
theorem copyN {u : Int} {y : List (List Int)} (hr : Kd.C kR w A x.length x) (hc : x.length ≤ c) (h : depotref00_CopyFormula.f k v x = some (u, y)) : Calls Tryz.prog 8 #[.agg #[.int .i64 v, .slice A x.length c]] w fun e w' => ∃ A2 c2, e = .returned (.agg #[.int .i64 u, .slice A2 y.length c2]) ∧ Kd.C kR w' A2 y.length y ∧ y.length ≤ c2 ∧ Below w.heap.size w w' := by
 refine (depotref00_CopyFormula.calls k v A c x u y w hr hc h).mono ?_
 rintro e w' ⟨v2, rfl, hS, hB⟩
 obtain ⟨A2, c2, rfl⟩ := Kd.S_slice hS
 have := Kd.S_reads' hS
 exact ⟨A2, c2, rfl, this.2.2, this.2.1, hB⟩
end
section
variable {A : Option Addr} {c n : Nat} {x : List Bool} {r : ByteArray} {w : World}
theorem saysN (hn : x.length = n) (hr : Kd.C Kd.bool w A n x) (hc : n ≤ c) (hE : Env w) (h : P.dimacs_WriteAnswer.f true x = some r) : Calls Tryz.prog 11 #[.bool true, .slice A n c] w fun e w' => e = .returned (.string r) ∧ Below w.heap.size w w' := by
 subst hn
 exact P.dimacs_WriteAnswer.calls true A c x r w hr hc hE h
theorem refsaysN (hn : x.length = n) (hr : Kd.C Kd.bool w A n x) (hc : n ≤ c) (hE : Env w) (h : P.depotref03_WriteAnswer.f true x = some r) : Calls Tryz.prog 13 #[.bool true, .slice A n c] w fun e w' => e = .returned (.string r) ∧ Below w.heap.size w w' := by
 subst hn
 exact P.depotref03_WriteAnswer.calls true A c x r w hr hc hE h
theorem keptBN {k m : Nat} {y : List Bool} {A2 : Option Addr} {c2 : Nat} (hn : x.length = n) (hr : Kd.C Kd.bool w A n x) (hc : n ≤ c) (hr2 : Kd.C Kd.bool w A2 y.length y) (hc2 : y.length ≤ c2) (h : depotkit_KeptBools.f k x y = some true) : Calls Tryz.prog 12 #[.slice A n c, .slice A2 y.length c2] w fun e w' => e = .returned (.bool true) ∧ Below w.heap.size w w' := by
 subst hn
 exact (depotkit_KeptBools.calls k A c x A2 c2 y true w hr hc hr2 hc2 h).mono fun e w' h => ⟨h.1, h.2.below⟩
end
/-- A call that keeps what lies, within the class of the worlds behind wr. -/
theorem cls_of {f : Nat} {args : Array Value} {v : Value} {wr : World} (h : ∀ W, Below wr.heap.size wr W → Calls Tryz.prog f args W fun e w' => e = .returned v ∧ Below W.heap.size W w') : ∀ j : Wb wr, Calls Tryz.prog f args j.val fun e w' => e = .returned v ∧ ∃ q : Wb wr, w' = q.val := fun j =>
 (h j.val j.bel).mono fun e w' g => ⟨g.1, ⟨⟨w', below_tr j.bel g.2⟩, rfl⟩⟩
set_option maxHeartbeats 16000000 in
set_option maxRecDepth 100000 in
theorem keeps_walk (k : Nat) (vF vG : Int) (l m : List (List Int)) (q y : List Bool) (A0 : Option Addr) (c0 : Nat) (A1 : Option Addr) (c1 : Nat) (A2 : Option Addr) (c2 : Nat) (s t : ByteArray) (o1 p1 q1 r1 r2 : ByteArray) (o2 p2 q2 : Int) (w : World)
  (hr0 : Kd.C kR w A0 l.length l) (hc0 : l.length ≤ c0) (hr1 : Kd.C kR w A1 m.length m) (hc1 : m.length ≤ c1) (hr2 : Kd.C Kd.bool w A2 q.length q) (hc2 : q.length ≤ c2) (hE : Env w) (hlen : l.length ≤ 1048576) (hql : q.length ≤ 1048576) (hyl : y.length = q.length + 64)
  (HL : Aside0 (∀ x ∈ l, depotkit_Lent.f k x = some (x ++ marksL))) (hfl : ∀ x ∈ l, x.length ≤ 1048576) (HK : Aside0 (depotkit_KeptRows.f k l (l ++ behL) (RsL l) l = some true)) (HOV : Aside0 (∀ R ∈ RsL l, ∃ R', depotkit_Over.f k R = some R')) (HCP : Aside0 (depotref00_CopyFormula.f k vG m = some (vG, m)))
  (HW1 : Aside0 (P.dimacs_Write.f vF l = some (o1, o2))) (HW2 : Aside0 (P.depotref03_Write.f vF l = some (o1, o2))) (HW3 : Aside0 (P.dimacs_Write.f vF (overL l.length) = some (p1, p2))) (HW4 : Aside0 (P.depotref03_Write.f vF (overL l.length) = some (p1, p2))) (HW5 : Aside0 (P.dimacs_Write.f vG m = some (q1, q2)))
  (HLB : Aside0 (depotkit_LentBools.f k q = some (q ++ marksB))) (HKB : Aside0 (depotkit_KeptBools.f k (q ++ marksB) q = some true)) (HOB : Aside0 (depotkit_OverBools.f k (q ++ marksB) = some y)) (HS1 : Aside0 (P.dimacs_WriteAnswer.f true q = some r1)) (HS2 : Aside0 (P.depotref03_WriteAnswer.f true q = some r1)) (HS3 : Aside0 (P.dimacs_WriteAnswer.f true (y.take q.length) = some r2)) (HS4 : Aside0 (P.depotref03_WriteAnswer.f true (y.take q.length) = some r2))
  (HRA : Aside0 (∀ W, Env W → Calls Tryz.prog 15 #[.string s, .string t] W fun e w' => e = .returned (.bool true) ∧ Below W.heap.size W w')) (HMA : Aside0 (∀ W, Env W → Calls Tryz.prog 16 #[.string s, .string t] W fun e w' => e = .returned (.bool true) ∧ Below W.heap.size W w')) :
  Calls Tryz.prog 3 #[.agg #[.int .i64 vF, .slice A0 l.length c0, .int .i64 vG, .slice A1 m.length c1, .slice A2 q.length c2, .string s, .string t]] w fun e w' => e = .returned (.bool true) ∧ Below w.heap.size w w' := by
 have HR0 := Aside0.mk hr0
 have HR1 := Aside0.mk hr1
 have HR2 := Aside0.mk hr2
 have HE := Aside0.mk hE
 have HFL := Aside0.mk hfl
 clear hr0 hr1 hr2 hE hfl
 go_enter Tryz.func3, Tryz.ntmps3
 go_wp2_with fail
 have hbx : (w.alloc (.cells #[.int .i64 vF, .slice A0 l.length c0, .int .i64 vG, .slice A1 m.length c1, .slice A2 q.length c2, .string s, .string t] 27)).heap[w.heap.size]? = some (.cells #[.int .i64 vF, .slice A0 l.length c0, .int .i64 vG, .slice A1 m.length c1, .slice A2 q.length c2, .string s, .string t] 27 (0, 0)) := heap_alloc_new _ _
 have h01 : Below w.heap.size w (w.alloc (.cells #[.int .i64 vF, .slice A0 l.length c0, .int .i64 vG, .slice A1 m.length c1, .slice A2 q.length c2, .string s, .string t] 27)) := alloc_below _ _
 obtain ⟨ga, hga⟩ : ∃ ga, w.heap.size = ga := ⟨_, rfl⟩
 generalize w.alloc (.cells #[.int .i64 vF, .slice A0 l.length c0, .int .i64 vG, .slice A1 m.length c1, .slice A2 q.length c2, .string s, .string t] 27) = w1 at hbx h01 ⊢
 rw [hga] at hbx ⊢
 have hg1 : ga < w1.heap.size := blk_lt hbx
 have HBX := Aside0.mk hbx
 have H01 := Aside0.mk h01
 clear hbx h01 hga
 refine (lentRows_calls k l A0 c0 w1 (Kd.C_below HR0.out H01.out) hc0 (by omega) (fun x hx => by have := HFL.out x hx; omega) HL.out).mono ?_
 rintro e w2 ⟨A, ci, rowsV, rs, cs, rfl, hP, hB2⟩
 obtain ⟨g, ci', eV, hci, hCa, hCi⟩ := hP.reads
 obtain ⟨rfl, rfl⟩ : A = some ⟨g, 0, none⟩ ∧ ci = ci' := by injection eV with e1 _ e3; exact ⟨e1, e3⟩
 obtain ⟨Ar, cr, rfl, hcr, hCr⟩ := hP.rowsC
 rw [RsL_len] at hcr hCr hP ⊢
 rw [headsR_own] at hCa hCi
 have HP := Aside0.mk hP
 have HB2 := Aside0.mk hB2
 have HCA := Aside0.mk hCa
 have HCI := Aside0.mk hCi
 have HCR := Aside0.mk hCr
 have hco : l.length ≤ ci := by omega
 clear hP hB2 hCa hCi hCr eV
 have hbx : (w2.alloc (.cells #[.slice (some ⟨g, 0, none⟩) l.length ci, .slice (some ⟨g, 0, none⟩) (l.length + 64) ci, .slice Ar l.length cr] 29)).heap[w2.heap.size]? = some (.cells #[Value.slice (some ⟨g, 0, none⟩) l.length ci, Value.slice (some ⟨g, 0, none⟩) (l.length + 64) ci, Value.slice Ar l.length cr] 29 (0, 0)) := heap_alloc_new w2 _
 have h23 : Below w2.heap.size w2 (w2.alloc (.cells #[.slice (some ⟨g, 0, none⟩) l.length ci, .slice (some ⟨g, 0, none⟩) (l.length + 64) ci, .slice Ar l.length cr] 29)) := alloc_below _ _
 have hba := blk_below HBX.out (below_tr HB2.out h23)
 have a0 : (w2.alloc (.cells #[.slice (some ⟨g, 0, none⟩) l.length ci, .slice (some ⟨g, 0, none⟩) (l.length + 64) ci, .slice Ar l.length cr] 29)).cell? ⟨ga, 0, none⟩ = some (.int .i64 vF) := (blk_cell hba 0).trans rfl
 go_wp2_with fail
 clear a0
 obtain ⟨X, hX⟩ : ∃ X, w2.heap.size = X := ⟨_, rfl⟩
 generalize w2.alloc (.cells #[.slice (some ⟨g, 0, none⟩) l.length ci, .slice (some ⟨g, 0, none⟩) (l.length + 64) ci, .slice Ar l.length cr] 29) = w3 at hbx h23 hba ⊢
 rw [hX] at hbx ⊢
 have H23 := Aside0.mk h23
 have H13 := Aside0.mk (below_tr HB2.out h23)
 have H03 := Aside0.mk (below_tr H01.out H13.out)
 have FA := Aside0.mk (fun (W : World) (h : Below w3.heap.size w3 W) => blk_below hba h)
 have FB := Aside0.mk (fun (W : World) (h : Below w3.heap.size w3 W) => blk_below hbx h)
 have FI := Aside0.mk (fun (W : World) (h : Below w3.heap.size w3 W) => Kd.C_below HCI.out (below_tr H23.out h))
 have FIA := Aside0.mk (fun (W : World) (h : Below w3.heap.size w3 W) => Kd.C_below HCA.out (below_tr H23.out h))
 have FL := Aside0.mk (fun (W : World) (h : Below w3.heap.size w3 W) => Kd.C_below HR0.out (below_tr H03.out h))
 have FM := Aside0.mk (fun (W : World) (h : Below w3.heap.size w3 W) => Kd.C_below HR1.out (below_tr H03.out h))
 have FR := Aside0.mk (fun (W : World) (h : Below w3.heap.size w3 W) => Kd.C_below HCR.out (below_tr H23.out h))
 have FE := Aside0.mk (fun (W : World) (h : Below w3.heap.size w3 W) => HE.out.below (below_tr H03.out h))
 have FP := Aside0.mk (fun (W : World) (h : Below w3.heap.size w3 W) => HP.out.below (below_tr H23.out h))
 have G3 := Aside0.mk (Below.refl w3.heap.size w3)
 have hwl : (l ++ behL).length = l.length + 64 := by rw [List.length_append, behL_len]
 have HWL := Aside0.mk hwl
 clear hbx h23 hba hX hwl HCI HCA HR1 HCR HP HL HFL
 refine (writeN (v := vF) (x := l) (r1 := o1) (r2 := o2) rfl (FI.out _ G3.out) hco (FE.out _ G3.out) HW1.out).mono ?_
 rintro e w4 ⟨rfl, hbz⟩
 have G4 := Aside0.mk (below_tr G3.out hbz)
 clear hbz G3
 have a0 : (w4).cell? ⟨ga, 0, none⟩ = some (.int .i64 vF) := (blk_cell (FA.out _ G4.out) 0).trans rfl
 have a1 : (w4).cell? ⟨ga, 1, none⟩ = some (.slice A0 l.length c0) := (blk_cell (FA.out _ G4.out) 1).trans rfl
 go_wp2_with fail
 clear a0 a1
 refine (refwriteN (v := vF) (x := l) (r1 := o1) (r2 := o2) rfl (FL.out _ G4.out) hc0 (FE.out _ G4.out) HW2.out).mono ?_
 rintro e w5 ⟨rfl, hbz⟩
 have G5 := Aside0.mk (below_tr G4.out hbz)
 clear hbz G4
 have a1 : (w5).cell? ⟨ga, 1, none⟩ = some (.slice A0 l.length c0) := (blk_cell (FA.out _ G5.out) 1).trans rfl
 have b0 : (w5).cell? ⟨X, 0, none⟩ = some (Value.slice (some ⟨g, 0, none⟩) l.length ci) := (blk_cell (FB.out _ G5.out) 0).trans rfl
 have b1 : (w5).cell? ⟨X, 1, none⟩ = some (Value.slice (some ⟨g, 0, none⟩) (l.length + 64) ci) := (blk_cell (FB.out _ G5.out) 1).trans rfl
 have b2 : (w5).cell? ⟨X, 2, none⟩ = some (Value.slice Ar l.length cr) := (blk_cell (FB.out _ G5.out) 2).trans rfl
 go_wp2_with fail
 clear a1 b0 b1 b2
 refine (keptN (k := k) rfl HWL.out (RsL_len l) (FI.out _ G5.out) hco (FIA.out _ G5.out) hci (FR.out _ G5.out) hcr (FL.out _ G5.out) hc0 HK.out).mono ?_
 rintro e w6 ⟨rfl, hbz⟩
 have G6 := Aside0.mk (below_tr G5.out hbz)
 clear hbz G5
 have a2 : (w6).cell? ⟨ga, 2, none⟩ = some (.int .i64 vG) := (blk_cell (FA.out _ G6.out) 2).trans rfl
 have a3 : (w6).cell? ⟨ga, 3, none⟩ = some (.slice A1 m.length c1) := (blk_cell (FA.out _ G6.out) 3).trans rfl
 go_wp2_with fail
 clear a2 a3
 refine (copyN (FM.out _ G6.out) hc1 HCP.out).mono ?_
 rintro e w7 ⟨A3, c3, rfl, hC3, hc3, hbz⟩
 have G7 := Aside0.mk (below_tr G6.out hbz)
 clear hbz G6
 go_wp2_with fail
 refine (writeN (v := vG) (x := m) (r1 := q1) (r2 := q2) rfl hC3 hc3 (FE.out _ G7.out) HW5.out).mono ?_
 rintro e w8 ⟨rfl, hbz⟩
 have G8 := Aside0.mk (below_tr G7.out hbz)
 clear hbz G7
 clear hC3 hc3
 have a0 : (w8).cell? ⟨ga, 0, none⟩ = some (.int .i64 vF) := (blk_cell (FA.out _ G8.out) 0).trans rfl
 have b0 : (w8).cell? ⟨X, 0, none⟩ = some (Value.slice (some ⟨g, 0, none⟩) l.length ci) := (blk_cell (FB.out _ G8.out) 0).trans rfl
 go_wp2_with fail
 clear a0 b0
 refine (writeN (v := vF) (x := l) (r1 := o1) (r2 := o2) rfl (FI.out _ G8.out) hco (FE.out _ G8.out) HW1.out).mono ?_
 rintro e w9 ⟨rfl, hbz⟩
 have G9 := Aside0.mk (below_tr G8.out hbz)
 clear hbz G8
 have b0 : (w9).cell? ⟨X, 0, none⟩ = some (Value.slice (some ⟨g, 0, none⟩) l.length ci) := (blk_cell (FB.out _ G9.out) 0).trans rfl
 have b1 : (w9).cell? ⟨X, 1, none⟩ = some (Value.slice (some ⟨g, 0, none⟩) (l.length + 64) ci) := (blk_cell (FB.out _ G9.out) 1).trans rfl
 have b2 : (w9).cell? ⟨X, 2, none⟩ = some (Value.slice Ar l.length cr) := (blk_cell (FB.out _ G9.out) 2).trans rfl
 go_wp2_with fail
 clear b0 b1 b2
 have HPW := Aside0.mk (FP.out _ G9.out)
 have hrl : rs.length = l.length := by rw [HPW.out.rows.len, RsL_len]
 have HRL := Aside0.mk hrl
 have HOC := overRows_calls k (.slice (some ⟨g, 0, none⟩) l.length ci) (some ⟨g, 0, none⟩) (l.length + 64) ci (.slice Ar l.length cr) rs cs (RsL l) w1 w9 rfl (below_tr H13.out G9.out) HPW.out.own (by rw [hrl]; exact HPW.out.own2) HPW.out.rows (by omega) (by omega) HOV.out
 refine HOC.mono ?_
 rintro e w10 ⟨⟨ve, rfl⟩, hP1, hRo⟩
 have hbo : Below w1.heap.size w1 w10 := HPW.out.belowR hRo w1 (Nat.le_refl _) (below_tr H13.out G9.out)
 have GB := Aside0.mk hbo
 have hb8 := FB.out w9 G9.out
 have hbo8 : w10.heap[X]? = some (.cells #[.slice (some ⟨g, 0, none⟩) l.length ci, .slice (some ⟨g, 0, none⟩) (l.length + 64) ci, .slice Ar l.length cr] 29 (0, 0)) := (hRo.same X (blk_lt hb8) (fun v hv he => by
  rcases List.mem_append.1 hv with hv | hv
  ·obtain ⟨j, hj⟩ := List.mem_iff_getElem?.1 hv
   have hjl : j < (RsL l).length := by rw [← HPW.out.rows.len]; exact (List.getElem?_eq_some_iff.1 hj).1
   obtain ⟨c3, h3⟩ := Kd.R_typed (HPW.out.rows.own j v _ hj (List.getElem?_eq_getElem hjl)) X he
   exact blk_ne hb8 h3 (by decide) rfl
  ·rw [List.mem_singleton] at hv
   subst hv
   obtain ⟨c3, h3⟩ := own_typed HPW.out.own X he
   exact blk_ne hb8 h3 (by decide) rfl)).trans hb8
 have HCO := Aside0.mk (over_reads hP1 (show l.length ≤ l.length + 64 by omega))
 have FO := Aside0.mk (fun (W : World) (h : Below w10.heap.size w10 W) => Kd.C_below HCO.out h)
 have FX := Aside0.mk (fun (W : World) (h : Below w10.heap.size w10 W) => blk_below hbo8 h)
 have FAb := Aside0.mk (fun (W : World) (h : Below w10.heap.size w10 W) => blk_below HBX.out (below_tr GB.out h))
 have FEb := Aside0.mk (fun (W : World) (h : Below w10.heap.size w10 W) => HE.out.below (below_tr H01.out (below_tr GB.out h)))
 have FQ := Aside0.mk (fun (W : World) (h : Below w10.heap.size w10 W) => Kd.C_below HR2.out (below_tr H01.out (below_tr GB.out h)))
 have G10 := Aside0.mk (Below.refl w10.heap.size w10)
 have HOL := Aside0.mk (overL_len l.length)
 clear hP1 hRo hbo hb8 hbo8 HPW hrl HRL HOC FA FB FI FIA FL FM FR FE FP HK HOV G9
 have a0 : (w10).cell? ⟨ga, 0, none⟩ = some (.int .i64 vF) := (blk_cell (FAb.out _ G10.out) 0).trans rfl
 have b0 : (w10).cell? ⟨X, 0, none⟩ = some (Value.slice (some ⟨g, 0, none⟩) l.length ci) := (blk_cell (FX.out _ G10.out) 0).trans rfl
 go_wp2_with fail
 clear a0 b0
 have hbx : (w10.alloc (.cells #[.int .i64 vF, .slice (some ⟨g, 0, none⟩) l.length ci] 24)).heap[w10.heap.size]? = some (.cells #[.int .i64 vF, .slice (some ⟨g, 0, none⟩) l.length ci] 24 (0, 0)) := heap_alloc_new _ _
 have hbz : Below w10.heap.size w10 (w10.alloc (.cells #[.int .i64 vF, .slice (some ⟨g, 0, none⟩) l.length ci] 24)) := alloc_below _ _
 obtain ⟨g8, hg8⟩ : ∃ g8, w10.heap.size = g8 := ⟨_, rfl⟩
 generalize w10.alloc (.cells #[.int .i64 vF, .slice (some ⟨g, 0, none⟩) l.length ci] 24) = w11 at hbx hbz ⊢
 rw [hg8] at hbx ⊢
 have F8 := Aside0.mk (fun (W : World) (h : Below w11.heap.size w11 W) => blk_below hbx h)
 have G11 := Aside0.mk (below_tr G10.out hbz)
 have g11 := Aside0.mk (Below.refl w11.heap.size w11)
 clear hbx hbz hg8 G10
 refine (refwriteN (v := vF) (x := overL l.length) (r1 := p1) (r2 := p2) HOL.out (FO.out _ G11.out) hco (FEb.out _ G11.out) HW4.out).mono ?_
 rintro e w12 ⟨rfl, hbz⟩
 have G12 := Aside0.mk (below_tr G11.out hbz)
 have b0 : w12.cell? ⟨g8, 0, none⟩ = some (.int .i64 vF) := (blk_cell (F8.out _ hbz) 0).trans rfl
 have b1 : w12.cell? ⟨g8, 1, none⟩ = some (Value.slice (some ⟨g, 0, none⟩) l.length ci) := (blk_cell (F8.out _ hbz) 1).trans rfl
 clear hbz G11
 go_wp2_with fail
 clear b0 b1 F8
 refine (writeN (v := vF) (x := overL l.length) (r1 := p1) (r2 := p2) HOL.out (FO.out _ G12.out) hco (FEb.out _ G12.out) HW3.out).mono ?_
 rintro e w13 ⟨rfl, hbz⟩
 have G13 := Aside0.mk (below_tr G12.out hbz)
 clear hbz G12
 clear FO FX HCO HOL
 have a4 : (w13).cell? ⟨ga, 4, none⟩ = some (.slice A2 q.length c2) := (blk_cell (FAb.out _ G13.out) 4).trans rfl
 go_wp2_with fail
 clear a4
 refine (depotkit_LentBools.calls k A2 c2 q (q ++ marksB) _ (FQ.out _ G13.out) hc2 HLB.out).mono ?_
 rintro e w14 ⟨vm, rfl, hRm, hbz⟩
 obtain ⟨Am, cm, rfl⟩ := Kd.R_slice hRm
 have hml : (q ++ marksB).length = q.length + 64 := by rw [List.length_append, marksB_len]
 have hcm : q.length ≤ cm := by have := (Kd.R_reads' hRm).2.1; omega
 have hcM : q.length + 64 ≤ cm := by have := (Kd.R_reads' hRm).2.1; omega
 have hCm := (Kd.R_reads' hRm).2.2
 rw [hml] at hRm hCm ⊢
 have HML := Aside0.mk hml
 have HRM := Aside0.mk hRm
 have HCM := Aside0.mk hCm
 have HBP := Aside0.mk hbz
 have G14 := Aside0.mk (below_tr G13.out hbz)
 have FC := Aside0.mk (fun (W : World) (h : Below w14.heap.size w14 W) => Kd.C_below HCM.out h)
 have FH := Aside0.mk (fun (W : World) (h : Below w14.heap.size w14 W) => show Kd.C Kd.bool W Am q.length q from by
  have h1 := C_take (Kd.C_below HCM.out h) (show q.length ≤ q.length + 64 by omega)
  rwa [List.take_left] at h1)
 have J14 := Aside0.mk (Below.refl w14.heap.size w14)
 clear hRm hbz hCm hml
 have a4 : (w14).cell? ⟨ga, 4, none⟩ = some (.slice A2 q.length c2) := (blk_cell (FAb.out _ G14.out) 4).trans rfl
 go_wp2_with fail
 clear a4
 refine (saysN (x := q) (r := r1) rfl (FH.out _ J14.out) hcm (FEb.out _ G14.out) HS1.out).mono ?_
 rintro e w15 ⟨rfl, hbz⟩
 have G15 := Aside0.mk (below_tr G14.out hbz)
 have J15 := Aside0.mk (below_tr J14.out hbz)
 clear hbz
 have a4 : (w15).cell? ⟨ga, 4, none⟩ = some (.slice A2 q.length c2) := (blk_cell (FAb.out _ G15.out) 4).trans rfl
 go_wp2_with fail
 clear a4
 refine (keptBN (k := k) (m := 0) HML.out (FC.out _ J15.out) hcM (FQ.out _ G15.out) hc2 HKB.out).mono ?_
 rintro e w16 ⟨rfl, hbz⟩
 have G16 := Aside0.mk (below_tr G15.out hbz)
 have J16 := Aside0.mk (below_tr J15.out hbz)
 clear hbz
 have a4 : (w16).cell? ⟨ga, 4, none⟩ = some (.slice A2 q.length c2) := (blk_cell (FAb.out _ G16.out) 4).trans rfl
 go_wp2_with fail
 clear a4
 refine (refsaysN (x := q) (r := r1) rfl (FQ.out _ G16.out) hc2 (FEb.out _ G16.out) HS2.out).mono ?_
 rintro e w17 ⟨rfl, hbz⟩
 have G17 := Aside0.mk (below_tr G16.out hbz)
 have J17 := Aside0.mk (below_tr J16.out hbz)
 clear hbz
 go_wp2_with fail
 refine (depotkit_OverBools.calls k (fun b => some b = (Value.slice Am (q.length + 64) cm).ownBlock) (.slice Am (q.length + 64) cm) (q ++ marksB) y w13 w17 (below_tr HBP.out J17.out) (Kd.R_below (Kd.R_tight rfl HRM.out) J17.out) HOB.out).mono ?_
 rintro e w18 ⟨rfl, hRy, hBy, hkp⟩
 have hCy := (Kd.R_reads' hRy).2.2
 have hCt := C_take hCy (show q.length ≤ y.length by omega)
 have G18 := Aside0.mk (below_tr G13.out hBy)
 have hyt : (y.take q.length).length = q.length := by rw [List.length_take]; omega
 have HYT := Aside0.mk hyt
 have HCT := Aside0.mk hCt
 clear hRy hBy hkp hCy hCt hyt FC FH
 have a4 : w18.cell? ⟨ga, 4, none⟩ = some (.slice A2 q.length c2) := (blk_cell (FAb.out _ G18.out) 4).trans rfl
 have a5 : w18.cell? ⟨ga, 5, none⟩ = some (.string s) := (blk_cell (FAb.out _ G18.out) 5).trans rfl
 have a6 : w18.cell? ⟨ga, 6, none⟩ = some (.string t) := (blk_cell (FAb.out _ G18.out) 6).trans rfl
 have ha4 : ∀ j : Wb w18, j.val.cell? ⟨ga, 4, none⟩ = some (.slice A2 q.length c2) := fun j => Kd.cell_heap (fun b hb => j.bel.block b hb) a4
 have ha5 : ∀ j : Wb w18, j.val.cell? ⟨ga, 5, none⟩ = some (.string s) := fun j => Kd.cell_heap (fun b hb => j.bel.block b hb) a5
 have ha6 : ∀ j : Wb w18, j.val.cell? ⟨ga, 6, none⟩ = some (.string t) := fun j => Kd.cell_heap (fun b hb => j.bel.block b hb) a6
 have K1 := Aside0.mk (cls_of (f := 11) (wr := w18) fun W h => saysN (x := y.take q.length) (r := r2) HYT.out (Kd.C_below HCT.out h) hcm (FEb.out _ (below_tr G18.out h)) HS3.out)
 have K2 := Aside0.mk (cls_of (f := 13) (wr := w18) fun W h => refsaysN (x := y.take q.length) (r := r2) HYT.out (Kd.C_below HCT.out h) hcm (FEb.out _ (below_tr G18.out h)) HS4.out)
 have K3 := Aside0.mk (cls_of (wr := w18) fun W h => HRA.out W (FEb.out _ (below_tr G18.out h)))
 have K4 := Aside0.mk (cls_of (wr := w18) fun W h => HMA.out W (FEb.out _ (below_tr G18.out h)))
 have hnw : Nonempty (Wb w18) := ⟨⟨w18, Below.refl _ _⟩⟩
 go_wp2
 refine region_clsK (by kernel_rfl) (by kernel_rfl) ?_
 repeat (go_big_quiet_step (first | (go_at_call 11; exact K1.out _) | (go_at_call 13; exact K2.out _) | (go_at_call 15; exact K3.out _) | (go_at_call 16; exact K4.out _)))
 refine wpQuiet_nil ?_
 intro _ hw'
 obtain ⟨j, hw''⟩ := hw'
 subst hw''
 have HZ := Aside0.mk (below_tr H01.out (below_tr GB.out (below_tr G18.out j.bel)))
 clear a4 a5 a6 ha4 ha5 ha6
 go_wp2
 go_ret
 exact ⟨by simp, HZ.out⟩
end Go.Proofs.YtlhajfepcggjaaaGreatDoor.KP

set_option linter.unusedVariables false
set_option linter.unusedSimpArgs false
namespace Go.Proofs.YtlhajfepcggjaaaGreatDoor.KP
open Go Go.RowKit Go.Proofs.YtlhajfepcggjaaaGreatDoorW.PrintWords Go.Proofs.YtlhajfepcggjaaaGreatDoorW.PrintLast Go.Proofs.YtlhajfepcggjaaaGreatDoorW.PrintMore Go.Proofs.YtlhajfepcggjaaaGreatDoor.R
open Go.Proofs.YtlhajfepcggjaaaGreatDoor.P (dimR saysT)

theorem write_f (v : Int) (l : List (List Int)) (hl : l.length ≤ 1048576) (hm : ∀ s ∈ l, s.length ≤ 1048576) : P.dimacs_Write.f v l = some ((dimR v l).1, (dimR v l).2) := by
 unfold P.dimacs_Write.f
 rw [if_pos ⟨hl, hm⟩]
theorem refwrite_f (v : Int) (l : List (List Int)) (hl : l.length ≤ 1048576) (hm : ∀ s ∈ l, s.length ≤ 1048576) : P.depotref03_Write.f v l = some ((dimR v l).1, (dimR v l).2) := by
 unfold P.depotref03_Write.f
 rw [if_pos ⟨hl, hm⟩]
theorem says_f (l : List Bool) (hl : l.length ≤ 1048576) : P.dimacs_WriteAnswer.f true l = some ⟨(saysT true l).toArray⟩ := by
 unfold P.dimacs_WriteAnswer.f
 rw [if_pos hl]
theorem refsays_f (l : List Bool) (hl : l.length ≤ 1048576) : P.depotref03_WriteAnswer.f true l = some ⟨(saysT true l).toArray⟩ := by
 unfold P.depotref03_WriteAnswer.f
 rw [if_pos hl]
theorem readsA (K1 K2 k : Nat) (s t : ByteArray) (hs : s.size ≤ 1048576) (ht : t.size ≤ 1048576) (h1 : ∀ k, K1 < k → depotref03_Read.f k s = some (U.toR (readD s))) (h2 : ∀ k, K2 < k → depotref03_Read.f k t = some (U.toR (readD t))) (hk1 : K1 < k) (hk2 : K2 < k) (hk : 5000000 < k) :
  ∀ W, Env W → Calls Tryz.prog 15 #[.string s, .string t] W fun e w' => e = .returned (.bool true) ∧ Below W.heap.size W w' := by
 intro W hE
 have b1 := U.readD_bound s hs
 have b2 := U.readD_bound t ht
 have r1 := U.read_f s (by omega)
 have r3 := U.read_f t (by omega)
 have r2 := h1 k hk1
 have r4 := h2 k hk2
 generalize U.toR (readD s) = x at b1 r1 r2
 generalize U.toR (readD t) = y at b2 r3 r4
 obtain ⟨va, a, e1, n1⟩ := x
 obtain ⟨vb, b, e2, n2⟩ := y
 exact readsApart_calls k s t va vb a b e1 n1 e2 n2 W hE r1 r2 r3 r4 (T.sameFormula_self va a 1048577 b1.2 (by omega) (by have := b1.1; simp only at this; omega) k (by have := b1.1; simp only at this; omega)) (T.sameFormula_self vb b 1048577 b2.2 (by omega) (by have := b2.1; simp only at this; omega) k (by have := b2.1; simp only at this; omega)) b1.1 b1.2 b2.1 b2.2
theorem modelsA (K1 K2 k : Nat) (s t : ByteArray) (hs : s.size ≤ 1048576) (ht : t.size ≤ 1048576) (h1 : ∀ k, K1 < k → depotref03_ReadAnswer.f k s = some (U.toA (readA s))) (h2 : ∀ k, K2 < k → depotref03_ReadAnswer.f k t = some (U.toA (readA t))) (hk1 : K1 < k) (hk2 : K2 < k) (hk : 5000000 < k) :
  ∀ W, Env W → Calls Tryz.prog 16 #[.string s, .string t] W fun e w' => e = .returned (.bool true) ∧ Below W.heap.size W w' := by
 intro W hE
 have b1 := U.readA_bound s
 have b2 := U.readA_bound t
 have r1 := U.answer_f s (by omega)
 have r3 := U.answer_f t (by omega)
 have r2 := h1 k hk1
 have r4 := h2 k hk2
 generalize U.toA (readA s) = x at b1 r1 r2
 generalize U.toA (readA t) = y at b2 r3 r4
 obtain ⟨sa, a, e1, n1⟩ := x
 obtain ⟨sb, b, e2, n2⟩ := y
 simp only at b1 b2
 exact modelsApart_calls k s t sa sb a b e1 n1 e2 n2 W hE r1 r2 r3 r4 (U.sameBools_self a (by omega) k (by omega)) (U.sameBools_self b (by omega) k (by omega)) (by omega) (by omega)
theorem keeps_calls (vF vG : Int) (l m : List (List Int)) (q : List Bool) (A0 : Option Addr) (c0 : Nat) (A1 : Option Addr) (c1 : Nat) (A2 : Option Addr) (c2 : Nat) (s t : ByteArray) (w : World)
  (hr0 : Kd.C kR w A0 l.length l) (hc0 : l.length ≤ c0) (hr1 : Kd.C kR w A1 m.length m) (hc1 : m.length ≤ c1) (hr2 : Kd.C Kd.bool w A2 q.length q) (hc2 : q.length ≤ c2) (hE : Env w) (hs : s.size ≤ 1048576) (ht : t.size ≤ 1048576)
  (hlen : l.length ≤ 1048576) (hfl : ∀ x ∈ l, x.length ≤ 1048576) (hlem : m.length ≤ 1048576) (hfm : ∀ x ∈ m, x.length ≤ 1048576) (hql : q.length ≤ 1048576) :
  Calls Tryz.prog 3 #[.agg #[.int .i64 vF, .slice A0 l.length c0, .int .i64 vG, .slice A1 m.length c1, .slice A2 q.length c2, .string s, .string t]] w fun e w' => e = .returned (.bool true) ∧ Below w.heap.size w w' := by
 obtain ⟨K1, hK1⟩ := U.read_is s hs
 obtain ⟨K2, hK2⟩ := U.read_is t ht
 obtain ⟨K3, hK3⟩ := U.answer_is s hs
 obtain ⟨K4, hK4⟩ := U.answer_is t ht
 obtain ⟨k, hk⟩ : ∃ k, K1 + K2 + K3 + K4 + 5000000000001 = k := ⟨_, rfl⟩
 have hkb : 5000000000000 < k := by omega
 have hfo : ∀ x ∈ overL l.length, x.length ≤ 1048576 := fun x hx => by
  unfold overL at hx
  obtain ⟨j, _, rfl⟩ := List.mem_map.1 hx
  show 3 ≤ 1048576
  omega
 have hol : (overL l.length).length ≤ 1048576 := by rw [overL_len]; exact hlen
 have HK : Aside0 (depotkit_KeptRows.f k l (l ++ behL) (RsL l) l = some true) := ⟨keptR_is l (by omega) 1048576 (by omega) hfl k (by
  have := Nat.mul_le_mul_right (1048576 + 70) hlen
  omega)⟩
 have HL : Aside0 (∀ x ∈ l, depotkit_Lent.f k x = some (x ++ marksL)) := ⟨fun x hx => lent_is _ (by have := hfl x hx; omega) k (by have := hfl x hx; omega)⟩
 have HOV : Aside0 (∀ R ∈ RsL l, ∃ R', depotkit_Over.f k R = some R') := ⟨fun R hR => by
  obtain ⟨x, hx, rfl⟩ := List.mem_map.1 hR
  have h1 := hfl x hx
  exact over_is _ (by rw [List.length_append, marksL_len]; omega) k (by rw [List.length_append, marksL_len]; omega)⟩
 have HCP : Aside0 (depotref00_CopyFormula.f k vG m = some (vG, m)) := ⟨T.copyFormula_is vG m 1048576 hfm (by omega) (by omega) k (by omega)⟩
 have hml : (q ++ marksB).length = q.length + 64 := by rw [List.length_append, marksB_len]
 obtain ⟨y, hy, hyl⟩ := overB_is (q ++ marksB) (by omega) k (by omega)
 have hyt : (y.take q.length).length ≤ 1048576 := by rw [List.length_take]; omega
 exact keeps_walk k vF vG l m q y A0 c0 A1 c1 A2 c2 s t _ _ _ _ _ _ _ _ w hr0 hc0 hr1 hc1 hr2 hc2 hE hlen hql (by omega) HL hfl HK HOV HCP ⟨write_f vF l hlen hfl⟩ ⟨refwrite_f vF l hlen hfl⟩ ⟨write_f vF _ hol hfo⟩ ⟨refwrite_f vF _ hol hfo⟩ ⟨write_f vG m hlem hfm⟩ ⟨lentB_is q (by omega) k (by omega)⟩ ⟨keptB_is q (by omega) k (by omega)⟩ ⟨hy⟩ ⟨says_f q hql⟩ ⟨refsays_f q hql⟩ ⟨says_f _ hyt⟩ ⟨refsays_f _ hyt⟩ ⟨readsA K1 K2 k s t hs ht hK1 hK2 (by omega) (by omega) (by omega)⟩ ⟨modelsA K3 K4 k s t hs ht hK3 hK4 (by omega) (by omega) (by omega)⟩
end Go.Proofs.YtlhajfepcggjaaaGreatDoor.KP
