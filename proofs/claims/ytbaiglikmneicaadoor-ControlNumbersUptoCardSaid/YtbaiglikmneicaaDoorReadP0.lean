/- control.Read: the walk, label by label. No conditions. -/
import Derived.Test.YtbaiglikmneicaaDoorReadJ
set_option linter.unusedVariables false
set_option linter.unusedSimpArgs false
namespace Go.Proofs.YtbaiglikmneicaaDoor.P
open Go.RowKit Go.Lib Go.Proofs.YtbaiglikmneicaaDoorW.PrintWords Go.Proofs.YtbaiglikmneicaaDoorW.PrintLast Go.Proofs.YtbaiglikmneicaaDoorW.PrintMore
open Go.Proofs.YtbaiglikmneicaaDoor.R (mkB mkB_size linesA linesA_nil linesA_cons cut_len)
open Go.Proofs.YtbaiglikmneicaaDoor.C (fairL)
open Go.Proofs.YtbaiglikmneicaaDoor.G (jumps wp_scope_labels)

set_option maxHeartbeats 8000000 in
set_option maxRecDepth 100000 in
theorem pass0 (w0 : World) (g : Nat) (s : ByteArray) (hE : Env w0) (hs : s.size ≤ 4294967280) (rest : Code) (a : Act) (w : World) (hf : findLabel bodyC 0 = some rest) (hJ : JC w0 g s 0 a w) :
    rest.wp Tryd.prog (jumps (fun l' a' w' => JC w0 g s l' a' w' ∧ muC l' a' w' < muC 0 a w) (bodyPost Tryd.prog Tryd.f12 (PostC w0 s))) a w := by
  have HE := Aside0.mk hE
  clear hE
  obtain ⟨n, st, v0, v7, v11, vl, vf, hF, hR, hrd, hol⟩ := hJ
  obtain ⟨u, rfl⟩ := hF
  cases hf
  obtain ⟨Al, cl, el⟩ := Kd.R_slice hR.l
  subst el
  obtain ⟨Ao, co, eo⟩ := Kd.R_slice (Kd.S_R hR.s)
  subst eo
  have b1 : w.cell? ⟨g, 1, none⟩ = some (.slice Al st.fs.length cl) := (blk_cell hR.blk 1).trans rfl
  have b0 : w.cell? ⟨g, 0, none⟩ = some (.int .i64 st.line) := (blk_cell hR.blk 0).trans rfl
  have HR := Aside0.mk hR
  have HRD := Aside0.mk hrd
  clear hR hrd
  by_cases hfs : st.fs = []
  · have e1 : restC st n [] = (st.out, 0, 0) := by unfold restC gapC; rw [if_pos hfs]
    have HD := Aside0.mk (HRD.out.symm.trans e1)
    have hz : ¬ (0 < st.fs.length) := by rw [hfs]; simp
    clear hfs e1
    go_wp2_with fail
    simp only [jumps]
    go_ret3
    exact PostC.of (v := .slice Ao st.out.length co) HD.out (Kd.S_mono HR.out.s (fun _ _ => trivial)) HR.out.below
  · have e1 : restC st n [] = (st.out ++ [⟨st.line, st.fs⟩], 0, 0) := by unfold restC gapC; rw [if_neg hfs]
    have HD := Aside0.mk (HRD.out.symm.trans e1)
    have hz : 0 < st.fs.length := List.length_pos_iff.2 hfs
    clear hfs e1
    go_wp2_with (first | (at_builtin; refine Kd.S_append k41 (w0 := w0) w0.heap.size rfl (.tmp 107) (.tmp 109) 23 41 (.agg #[.int .i64 0, .slice none 0 0]) 32 rfl Tryd.underlying23 info41 rfl (by decide) (by decide) (.slice Ao st.out.length co) st.out (⟨st.line, st.fs⟩ : S41) [.int .i64 st.line, .slice Al st.fs.length cl] (fun k_ => k_ ≠ g) (fun k_ => some k_ = (Value.slice Al st.fs.length cl).ownBlock) ?hs ?hx ?aP ?aK ?aF ?aO ?aB ?aS ?aL ?_; (case hs => first | rfl | simp [Act.eval, Act.put]); (case hx => first | rfl | simp [Act.eval, Act.put]); (case aP => exact k41_mkM _ _ _ (⟨st.line, st.fs⟩ : S41) (Kd.R_tight rfl HR.out.l)); (case aK => exact (fun k hk => ⟨HR.out.l.1 k hk.symm, fun e => ((Kd.S_R HR.out.s).1 k e.symm).2 hk⟩)); (case aF => exact (fun k hk e => by subst e; have := blk_lt HR.out.blk; omega)); (case aO => exact Kd.S_mono HR.out.s (fun k hk => ⟨hk.1, fun e => hk.2 e⟩)); (case aB => exact HR.out.below); (case aS => exact HR.out.below.size); (case aL => omega); intro v1 w5 ho hb hg hat; obtain ⟨Ao, co, eo⟩ := Kd.R_slice (Kd.S_R ho); subst eo; have HS := Aside0.mk (Kd.S_mono (ok' := fun _ => True) ho (fun _ _ => trivial)); have HB := Aside0.mk hb; clear ho hb hg hat))
    simp only [jumps]
    go_ret3
    have hS := HS.out
    rw [show (st.out ++ [(⟨st.line, st.fs⟩ : S41)]).length = st.out.length + 1 by simp] at hS
    exact PostC.of HD.out hS HB.out
end Go.Proofs.YtbaiglikmneicaaDoor.P
