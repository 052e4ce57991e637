/- control.Read: what it comes to, for every text of at most 4294967280 bytes. No conditions. -/
import Derived.Test.YtbaiglikmneicaaDoorReadP0
import Derived.Test.YtbaiglikmneicaaDoorReadP1
import Derived.Test.YtbaiglikmneicaaDoorReadP2
import Derived.Test.YtbaiglikmneicaaDoorReadP3
set_option linter.unusedVariables false
set_option linter.unusedSimpArgs false
namespace Go.Proofs.YtbaiglikmneicaaDoor.P
open Go.RowKit Go.Lib Go.Proofs.YtbaiglikmneicaaDoorW.PrintWords Go.Proofs.YtbaiglikmneicaaDoorW.PrintLast Go.Proofs.YtbaiglikmneicaaDoorW.PrintMore
open Go.Proofs.YtbaiglikmneicaaDoor.R (mkB mkB_size linesA mkB_data)
open Go.Proofs.YtbaiglikmneicaaDoor.G (jumps wp_scope_labels)

theorem pass1 (w0 : World) (g : Nat) (s : ByteArray) (hE : Env w0) (hs : s.size ≤ 4294967280) (rest : Code) (a : Act) (w : World) (hf : findLabel bodyC 1 = some rest) (hJ : JC w0 g s 1 a w) :
    rest.wp Tryd.prog (jumps (fun l' a' w' => JC w0 g s l' a' w' ∧ muC l' a' w' < muC 1 a w) (bodyPost Tryd.prog Tryd.f12 (PostC w0 s))) a w := by
  cases hf
  exact wp_seq (wp_skip (pass1X w0 g s hE hs _ a w rfl hJ))
theorem pass_all (w0 : World) (g : Nat) (s : ByteArray) (hE : Env w0) (hs : s.size ≤ 4294967280) (l : Nat) (rest : Code) (a : Act) (w : World) (hf : findLabel bodyC l = some rest) (hJ : JC w0 g s l a w) :
    rest.wp Tryd.prog (jumps (fun l' a' w' => JC w0 g s l' a' w' ∧ muC l' a' w' < muC l a w) (bodyPost Tryd.prog Tryd.f12 (PostC w0 s))) a w := by
  match l, hf, hJ with
  | 0, hf, hJ => exact pass0 w0 g s hE hs rest a w hf hJ
  | 1, hf, hJ => exact pass1 w0 g s hE hs rest a w hf hJ
  | 2, hf, hJ => exact pass2 w0 g s hE hs rest a w hf hJ
  | 3, hf, hJ => exact pass3 w0 g s hE hs rest a w hf hJ
  | l + 4, _, hJ => exact hJ.elim
/-- A new stanza. -/
theorem rc_new (w : World) : RcV w w.heap.size (.slice none 0 0) (.slice none 0 0) cs0 (w.alloc (.cells #[.int .i64 0, .slice none 0 0] 41)) :=
  ⟨heap_alloc_new w _, Kd.S_nil _ _ _ _ _, Kd.R_nil _ _ _ _ _, (Below.refl _ w).alloc (Nat.le_refl _) _, Nat.le_refl _⟩
set_option maxHeartbeats 8000000 in
set_option maxRecDepth 100000 in
theorem read_walk (s : ByteArray) (w : World) (hE : Env w) (hs : s.size ≤ 4294967280) : Calls Tryd.prog 12 #[.string s] w (PostC w s) := by
  have HE := Aside0.mk hE
  have HN := Aside0.mk (rc_new w)
  have hmk : s = mkB s.data.toList := (mkB_data s).symm
  have HMK := Aside0.mk hmk
  clear hE hmk
  go_enter Tryd.func12, Tryd.ntmps12
  go_wp2_with fail
  refine wp_scope_labels (JC w w.heap.size s) muC (labels w w.heap.size s) ?_ (pass_all w w.heap.size s HE.out hs)
  go_wp2_with fail
  refine wp_label ?_
  rename_i K hK
  refine hK _ _ ?_
  refine Code.wp_mono ?_ (pass1X w w.heap.size s HE.out hs _ _ _ rfl ?hJ)
  case hJ => exact ⟨s.data.toList, 0, cs0, .string ⟨#[]⟩, .slice none 0 0, .slice none 0 0, FrC.mk .., HN.out, rfl, ⟨by simp, Nat.le_refl _, Nat.le_refl _, BndF.nil _⟩⟩
  intro e a' w' h
  cases e with
  | goto l => exact h.1
  | normal => exact h
  | exit id => exact h
  | ret => exact h
  | panic ch => exact h
  | outgrown => exact h
/-- What control.Read comes to. -/
def control_Read.f (a0 : ByteArray) : Option (List S41 × Int × Int) := if a0.size ≤ 4294967280 then some (readC a0) else none
theorem control_Read.calls (a0 : ByteArray) (r1 : List S41) (r2 r3 : Int) (w : World) (hE : Env w) (h : control_Read.f a0 = some (r1, r2, r3)) :
    Calls Tryd.prog 12 #[.string a0] w fun e w' => ∃ v0_ : Value, e = .returned (.tuple #[v0_, .int .i64 r2, .int .i64 r3]) ∧ Kd.S k41 41 w' w.heap.size (fun _ => True) v0_ r1 ∧ Below w.heap.size w w' := by
  unfold control_Read.f at h
  by_cases hs : a0.size ≤ 4294967280
  · rw [if_pos hs] at h
    have hr := read_walk a0 w hE hs
    unfold PostC at hr
    rw [Option.some.inj h] at hr
    exact hr
  · rw [if_neg hs] at h
    cases h
end Go.Proofs.YtbaiglikmneicaaDoor.P
