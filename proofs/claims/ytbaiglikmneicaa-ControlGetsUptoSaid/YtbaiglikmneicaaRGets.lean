/- The walk of the law ControlGets: it answers true where both Gets tell the same. No conditions. -/
import Derived.Test.YtbaiglikmneicaaPx1
import Derived.Test.YtbaiglikmneicaaPx2
set_option linter.unusedVariables false
set_option linter.unusedSimpArgs false
namespace Go.Proofs.Ytbaiglikmneicaa.P
open Go.RowKit Go.Proofs.YtbaiglikmneicaaW.PrintWords Go.Proofs.YtbaiglikmneicaaW.PrintLast Go.Proofs.YtbaiglikmneicaaW.PrintMore

theorem one_reads {W : World} {b : Nat} {line : Int} {A : Option Addr} {c : Nat} {fs : List S31} (hb : W.heap[b]? = some (.cells #[.int .i64 line, .slice A fs.length c] 24 (0, 0))) (hr : Kd.C k31 W A fs.length fs) (hc : fs.length ≤ c) :
    Kd.C k24 W (some ⟨b, 0, none⟩) [(⟨line, fs⟩ : S24)].length [(⟨line, fs⟩ : S24)] := by
  refine ⟨rfl, by simp, fun _ => ⟨_, rfl, fun j p hp => ?_⟩⟩
  cases j with
  | succ j => simp at hp
  | zero =>
    obtain rfl : ⟨line, fs⟩ = p := by simpa using hp
    refine ⟨[.int .i64 line, .slice A fs.length c], rfl, k24_mk W ⟨line, fs⟩ hc hr, fun i u hu => ?_⟩
    rw [add_plain, blk_cell hb]
    simpa using hu

theorem add_zero' (a : Addr) : a.add 0 = a := by unfold Addr.add; simp

theorem gets_walk (line : Int) (A : Option Addr) (c : Nat) (fs : List S31) (name : ByteArray) (w : World) (hr : Kd.C k31 w A fs.length fs) (hc : fs.length ≤ c) (k : Nat) (r1 : ByteArray) (r2 : Bool)
    (h5 : depotlaw21_copied.f k [(⟨line, fs⟩ : S24)] = some [(⟨line, fs⟩ : S24)]) (h4 : control_Get.f k line fs name = some (r1, r2)) (h6 : depotref21_Get.f k line fs name = some (r1, r2)) :
    Calls Try.prog 3 #[.agg #[.int .i64 line, .slice A fs.length c], .string name] w fun e w' => e = .returned (.bool true) ∧ Below w.heap.size w w' := by
  have HR := Aside0.mk hr
  have HC := Aside0.mk hc
  have H5 := Aside0.mk h5
  have H4 := Aside0.mk h4
  have H6 := Aside0.mk h6
  clear hr hc h5 h4 h6
  go_enter Try.func3, Try.ntmps3
  go_wp2_with fail
  refine calls_of_args (args' := #[.slice (some ⟨w.heap.size + 1, 0, none⟩) [(⟨line, fs⟩ : S24)].length 1]) rfl ?_
  refine (depotlaw21_copied.calls k (some ⟨w.heap.size + 1, 0, none⟩) 1 [(⟨line, fs⟩ : S24)] [(⟨line, fs⟩ : S24)] _ ?hr (Nat.le_refl 1) H5.out).mono ?_
  case hr => exact one_reads (by simpa using heap_alloc_new (w.alloc (.cells #[.int .i64 line, .slice A fs.length c] 24)) (.cells #[.int .i64 line, .slice A fs.length c] 24)) (Kd.C_alloc (Kd.C_alloc HR.out _) _) HC.out
  rintro e w1 ⟨v0, rfl, hS, hB1⟩
  obtain ⟨A', c', rfl, hl, hC⟩ := Kd.R_reads (Kd.S_R hS)
  obtain ⟨ad, A1, c1, rfl, hx0, hx1, hl1, hC1⟩ := at_T24 hC 0 (by simp) (by simp)
  have hb0 := hB1.cell (p := ⟨w.heap.size, 0, none⟩) (by simp; omega)
  have hb1 := hB1.cell (p := ⟨w.heap.size, 1, none⟩) (by simp; omega)
  have hsz := hB1.size
  have HB1 := Aside0.mk (show Below w.heap.size w w1 from below_then (below_alloc (below_alloc (Below.refl w.heap.size w) (.cells #[.int .i64 line, .slice A fs.length c] 24)) (.cells #[.int .i64 line, .slice A fs.length c] 24)) (by simp; omega) hB1)
  have HC1 := Aside0.mk hC1
  have HL1 := Aside0.mk hl1
  simp [rd_T24, add_zero'] at hx0 hx1 hb0 hb1 hsz
  clear hS hC hl hl1 hC1 hB1
  go_wp2_with fail
  refine (control_Get.calls k line A1 c1 fs name r1 r2 _ HC1.out HL1.out H4.out).mono ?_
  rintro e w2 ⟨rfl, hB2⟩
  have hb2 := (hB2.cell (p := ⟨w.heap.size, 0, none⟩) (by show w.heap.size < w1.heap.size; omega)).trans hb0
  have hb3 := (hB2.cell (p := ⟨w.heap.size, 1, none⟩) (by show w.heap.size < w1.heap.size; omega)).trans hb1
  have HB2 := Aside0.mk (show Below w.heap.size w w2 from below_then HB1.out HB1.out.size hB2)
  have HR2 := Aside0.mk (Kd.C_below HR.out HB2.out)
  clear hB2 hb0 hb1 hx0 hx1 hsz
  go_wp2_with fail
  refine (depotref21_Get.calls k line A c fs name r1 r2 _ HR2.out HC.out H6.out).mono ?_
  rintro e w3 ⟨rfl, hB3⟩
  have HB3 := Aside0.mk (show Below w.heap.size w w3 from below_then HB2.out HB2.out.size hB3)
  clear hB3
  cases r2
  all_goals
    go_wp2
    go_ret
    exact ⟨by simp, HB3.out⟩
end Go.Proofs.Ytbaiglikmneicaa.P
