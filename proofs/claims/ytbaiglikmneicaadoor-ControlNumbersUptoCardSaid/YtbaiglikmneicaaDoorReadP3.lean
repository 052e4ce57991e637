/- control.Read: the walk, label by label. No conditions. -/
import Derived.Test.YtbaiglikmneicaaDoorReadJ
set_option linter.unusedVariables false
set_option linter.unusedSimpArgs false
namespace Go.Proofs.YtbaiglikmneicaaDoor.P
open Go.RowKit Go.Lib Go.Proofs.YtbaiglikmneicaaDoorW.PrintWords Go.Proofs.YtbaiglikmneicaaDoorW.PrintLast Go.Proofs.YtbaiglikmneicaaDoorW.PrintMore
open Go.Proofs.YtbaiglikmneicaaDoor.R (mkB mkB_size linesA linesA_nil linesA_cons cut_len)
open Go.Proofs.YtbaiglikmneicaaDoor.C (fairL)
open Go.Proofs.YtbaiglikmneicaaDoor.G (jumps wp_scope_labels)

set_option maxHeartbeats 8000000 in
set_option maxRecDepth 100000 in
theorem pass3 (w0 : World) (g : Nat) (s : ByteArray) (hE : Env w0) (hs : s.size ≤ 4294967280) (rest : Code) (a : Act) (w : World) (hf : findLabel bodyC 3 = some rest) (hJ : JC w0 g s 3 a w) :
    rest.wp Tryd.prog (jumps (fun l' a' w' => JC w0 g s l' a' w' ∧ muC l' a' w' < muC 3 a w) (bodyPost Tryd.prog Tryd.f12 (PostC w0 s))) a w := by
  have HE := Aside0.mk hE
  clear hE
  obtain ⟨t, b, n, st, vl, vf, hF, hR, hrd, hbn, hbl, hbf⟩ := hJ
  obtain ⟨u, rfl⟩ := hF
  cases hf
  have HBN := Aside0.mk hbn
  clear hbn
  by_cases hfs : st.fs = []
  · rw [if_pos hfs] at hrd
    have HD := Aside0.mk hrd.symm
    have hz : st.fs.length = 0 := by rw [hfs]; rfl
    obtain ⟨Al, cl, el⟩ := Kd.R_slice hR.l
    subst el
    obtain ⟨Ao, co, eo⟩ := Kd.R_slice (Kd.S_R hR.s)
    subst eo
    have b1 : w.cell? ⟨g, 1, none⟩ = some (.slice Al st.fs.length cl) := (blk_cell hR.blk 1).trans rfl
    have b0 : w.cell? ⟨g, 0, none⟩ = some (.int .i64 st.line) := (blk_cell hR.blk 0).trans rfl
    have f0 := blk_frozen hR.blk 0
    have f1 := blk_frozen hR.blk 1
    have HR := Aside0.mk hR
    skip
    clear hR hrd
    clear hfs hbf hbl
    rw [hz] at b1
    go_wp2_with fail
    simp only [jumps]
    go_ret3
    exact PostC.of (v := .slice none 0 0) HD.out (Kd.S_nil _ _ _ _ _) HR.out.below
  · rw [if_neg hfs] at hrd
    have HD := Aside0.mk hrd
    have hz : 0 < st.fs.length := List.length_pos_iff.2 hfs
    obtain ⟨gf, cap, hvf, hbg, hgl, cells, hcells⟩ := Kd.R_form hR.l hz
    subst hvf
    obtain ⟨m, hm⟩ : ∃ m, st.fs.length = m + 1 := ⟨st.fs.length - 1, by omega⟩
    obtain ⟨c, hcl, hM, hcc, _⟩ := Kd.R_elem hR.l z50 ((st.fs.length - 1 : Nat) : Int) (by omega) (by omega)
    rw [Int.toNat_natCast] at hM hcc
    obtain rfl := k50_openM hM
    have hx : w.cell? ⟨gf, (st.fs.length - 1) * 2 + 1, none⟩ = some (.string (st.fs.getD (st.fs.length - 1) z50).f1) := hcc 1 _ rfl
    have hxf := blk_frozen hcells ((st.fs.length - 1) * 2 + 1)
    have b1 : w.cell? ⟨g, 1, none⟩ = some (.slice (some ⟨gf, 0, none⟩) st.fs.length cap) := (blk_cell hR.blk 1).trans rfl
    have hlg := blk_lt hR.blk
    have hvs : (st.fs.getD (st.fs.length - 1) z50).f1.size ≤ 2 * s.size := hbf.last.2
    have MORE := Aside0.mk (fun w' (h : Below w.heap.size w w') => RcV.mored (hR.on h) hz (trimC b))
    have KEEP := Aside0.mk (fun w' (h : Below w.heap.size w w') => (show w'.cell? ⟨g, 1, none⟩ = some (.slice (some ⟨gf, 0, none⟩) st.fs.length cap) ∧ w'.cell? ⟨gf, (st.fs.length - 1) * 2 + 1, none⟩ = some (.string (st.fs.getD (st.fs.length - 1) z50).f1) ∧ w'.frozen? ⟨gf, (st.fs.length - 1) * 2 + 1, none⟩ = false from ⟨(h.cell hlg).trans b1, (h.cell hgl).trans hx, (h.frozen hgl).trans hxf⟩))
    have TR := Aside0.mk (show ∀ W, Calls Tryd.prog 30 #[.string (mkB b), .string ⟨#[32, 9]⟩] W fun e w' => e = .returned (.string (mkB (trimC b))) ∧ Below W.heap.size W w' from fun W => strings_Trim.calls (mkB b) (mkB blanksC) _ W (by unfold strings_Trim.f; rw [if_pos ⟨by rw [mkB_size]; omega, rfl⟩]; rfl))
    have hml := trimC_length b
    obtain ⟨tb, htb⟩ : ∃ tb, mkB (trimC b) = tb := ⟨_, rfl⟩
    have htl : tb.size ≤ b.length := by rw [← htb, mkB_size]; exact hml
    obtain ⟨V, hV⟩ : ∃ V, (st.fs.getD (st.fs.length - 1) z50).f1 = V := ⟨_, rfl⟩
    rw [htb] at TR MORE
    rw [hV] at hx hvs KEEP MORE
    have e1 : st.fs.length - 1 = m := by omega
    rw [e1] at hx hxf KEEP MORE
    rw [hm] at b1 KEEP
    clear hcc hcells hM htb hV hml
    have hq1 : ¬ (9223372036854775807 < 1 + tb.size) := by omega
    have hq2 : ¬ (9223372036854775807 < V.size + (1 + tb.size)) := by omega
    have hmb : m ≤ 4294967280 := by
      have h1 := HBN.out.fs
      have h2 := HBN.out.nt
      unfold moreC at h1
      rw [List.length_set] at h1
      omega
    have hw : IntKind.i64.wrap (m : Int) = (m : Int) := IntWalk.i64_in _ (by omega)
    have hlm : (m : Int) < (m : Int) + 1 := by omega
    have HR := Aside0.mk hR
    clear hR hfs hbf hbl hvs htl hcl e1
    have HM := Aside0.mk hm
    clear hm hz hrd
    go_wp2_with fail
    go_region_with (first | (go_at_call 30; (with_reducible refine (TR.out _).mono ?_); rintro e w2 ⟨rfl, hb2⟩; have HB := Aside0.mk ((Below.refl w.heap.size w).drew.trans hb2); obtain ⟨k1, k2, k3⟩ := KEEP.out _ HB.out; clear hb2))
    all_goals
      go_wp2_with fail
      refine wp_goto ?_
      change JC w0 g s 1 _ _ ∧ muC 1 _ _ < muC 3 _ _
      refine ⟨⟨t, n, _, _, _, _, FrC.mk .., MORE.out _ HB.out, HD.out, HBN.out⟩, ?_⟩
      simp [muC]
end Go.Proofs.YtbaiglikmneicaaDoor.P
