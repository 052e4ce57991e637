/- DratForeign: the law's call. No conditions. -/
import Derived.Test.YtooojhlndlebdaaRRRDoorRRRRLoopsQ
import Derived.Test.YtooojhlndlebdaaRRRDoorRRRRForeignP
import Derived.Test.YtooojhlndlebdaaRRRDoorRRRRPureDratBack
set_option linter.unusedVariables false
set_option linter.unusedSimpArgs false
namespace Go.Proofs.YtooojhlndlebdaaRRRDoorRRRR.R
open Go.RowKit Go.Lib Go.Proofs.YtooojhlndlebdaaRRRDoorRRRRW.PrintWords Go.Proofs.YtooojhlndlebdaaRRRDoorRRRRW.PrintLast Go.Proofs.YtooojhlndlebdaaRRRDoorRRRRW.PrintMore
open Go.Proofs.YtooojhlndlebdaaRRRDoorRRRR.Q (KeepC KC RW SeqR postR wpIn_rangeR)
attribute [local go_sem] Oper.semAt_some wide_fn

theorem fcell {w : World} {G j : Nat} (h : w.heap[G]? = some (.cells (fwords.map fun f => Value.string (mkB f)).toArray 9 (0, 0))) (hj : j < 15) : ∃ fw ∈ fwords, w.cell? ⟨G, j, none⟩ = some (.string (mkB fw)) := by
  have hl : j < fwords.length := hj
  refine ⟨fwords[j], List.getElem_mem hl, (blk_cell h j).trans ?_⟩
  simp [List.getElem?_eq_getElem hl]
set_option maxHeartbeats 4000000 in
set_option maxRecDepth 100000 in
theorem foreign_calls (n : Int) (w : World) : Calls Tryd.prog 24 #[.int .i64 n] w fun e w' => ∃ fw ∈ fwords, e = .returned (.string (mkB fw)) ∧ Below w.heap.size w w' := by
  obtain ⟨m, hm⟩ : ∃ m, Int.tmod n 15 = m := ⟨_, rfl⟩
  have hm1 : -15 < m ∧ m < 15 := by
    rw [← hm]
    have h1 := Int.tmod_lt_of_pos n (show (0 : Int) < 15 by decide)
    have h2 := Int.lt_tmod_of_pos n (show (0 : Int) < 15 by decide)
    omega
  obtain ⟨w1, hw1⟩ : ∃ w1, w.alloc (.cells #[.string ⟨#[120]⟩, .string ⟨#[43, 49]⟩, .string ⟨#[45, 48]⟩, .string ⟨#[48, 49]⟩, .string ⟨#[49, 46]⟩, .string ⟨#[100]⟩, .string ⟨#[49, 48, 52, 56, 53, 55, 55]⟩, .string ⟨#[45, 49, 48, 52, 56, 53, 55, 55]⟩, .string ⟨#[45]⟩, .string ⟨#[57, 57, 57, 57, 57, 57, 57, 57, 57, 57, 57, 57, 57, 57, 57, 57, 57, 57, 57, 57]⟩, .string ⟨#[49, 13]⟩, .string ⟨#[48, 48]⟩, .string ⟨#[68]⟩, .string ⟨#[100, 100]⟩, .string ⟨#[99]⟩] 9 (0, 0)) = w1 := ⟨_, rfl⟩
  have hb : Below w.heap.size w w1 := by rw [← hw1]; exact (Below.refl _ w).alloc (Nat.le_refl _) _
  have hr : w1.heap[w.heap.size]? = some (.cells (fwords.map fun f => Value.string (mkB f)).toArray 9 (0, 0)) := by rw [← hw1]; exact blk_new w _
  have HB := Aside0.mk hb
  by_cases hneg : m < 0
  · obtain ⟨fw, hf, hc⟩ := fcell hr (j := (m + 15).toNat) (by omega)
    have HF := Aside0.mk hf
    clear hf hb hr
    go_enter Tryd.func24, Tryd.ntmps24
    go_wp2_with fail
    go_ret
    exact ⟨fw, HF.out, rfl, HB.out⟩
  · obtain ⟨fw, hf, hc⟩ := fcell hr (j := m.toNat) (by omega)
    have HF := Aside0.mk hf
    clear hf hb hr
    go_enter Tryd.func24, Tryd.ntmps24
    go_wp2_with fail
    go_ret
    exact ⟨fw, HF.out, rfl, HB.out⟩
end Go.Proofs.YtooojhlndlebdaaRRRDoorRRRR.R
