/- The premise on the world that control's functions ask: the longest needle of package bytealg is some number, and the two tables of package utf8 stand as they are laid. -/
import Derived.Test.YtbaiglikmneicaaDoorProg
import Derived.Lib.LaidTab
import Derived.Below
import Derived.Test.YtbaiglikmneicaaDoorShelf
namespace Go.Proofs.YtbaiglikmneicaaDoor.P
open Go.RowKit

structure Env (w : World) : Prop where
  ml : ∃ m : Int, w.var? Tryd.prog "internal/bytealg.MaxLen" = some #[.int .i64 m]
  u8 : Lib.Utf8Tabs 0 1 w
theorem var_below {w w' : World} {n : String} {cs : Array Value} (hb : Below w.heap.size w w') (hv : w.var? Tryd.prog n = some cs) : w'.var? Tryd.prog n = some cs := by
  unfold World.var? at hv ⊢
  cases hg : Tryd.prog.globalNamed n with
  | none => rw [hg] at hv; simp at hv
  | some g =>
    rw [hg] at hv
    simp only [Option.bind_some] at hv ⊢
    have hlt : g < w.heap.size := by
      rcases Nat.lt_or_ge g w.heap.size with h | h
      · exact h
      · rw [Array.getElem?_eq_none h] at hv
        simp at hv
    rw [hb.block g hlt]
    exact hv
theorem Env.below {w w' : World} (h : Env w) (hb : Below w.heap.size w w') : Env w' :=
  ⟨h.ml.imp fun _ e => var_below hb e, Utf8Tabs_below h.u8 hb⟩
theorem Env.max {w : World} (h : Env w) : ∃ m : Int, w.cell? ⟨2, 0, none⟩ = some (.int .i64 m) := by
  obtain ⟨m, hm⟩ := h.ml
  refine ⟨m, ?_⟩
  have := World.var?_cell (show Tryd.prog.globalNamed "internal/bytealg.MaxLen" = some 2 by kernel_rfl) hm 0
  simpa using this
end Go.Proofs.YtbaiglikmneicaaDoor.P
