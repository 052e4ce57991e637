/- The premise on the world that the readers ask: the table of powers of ten, the longest needle, and two errors of package strconv. -/
import Derived.Test.YtlhajfepcggjaaaGreatDoorProg
import Derived.Lib.LaidTab
import Derived.Below
import Derived.Shelf.Strconv.Itoa3
namespace Go.Proofs.YtlhajfepcggjaaaGreatDoor.R
open Go.RowKit

structure Env (w : World) : Prop where
 pow : Lib.TabIs Tryz.prog w "internal/strconv.uint64pow10" .u64 Lib.pow10Tab
 ml : ∃ m : Int, w.var? Tryz.prog "internal/bytealg.MaxLen" = some #[.int .i64 m]
 es : ∃ tp p, w.var? Tryz.prog "strconv.ErrSyntax" = some #[.iface tp p]
 er : ∃ tp p, w.var? Tryz.prog "strconv.ErrRange" = some #[.iface tp p]
theorem var_below {w w' : World} {n : String} {cs : Array Value} (hb : Below w.heap.size w w') (hv : w.var? Tryz.prog n = some cs) : w'.var? Tryz.prog n = some cs := by
 unfold World.var? at hv ⊢
 cases hg : Tryz.prog.globalNamed n with
 | none => rw [hg] at hv; simp at hv
 | some g =>
  rw [hg] at hv
  simp only [Option.bind_some] at hv ⊢
  have hlt : g < w.heap.size := by
   rcases Nat.lt_or_ge g w.heap.size with h | h
   ·exact h
   ·rw [Array.getElem?_eq_none h] at hv
    simp at hv
  rw [hb.block g hlt]
  exact hv
theorem Env.below {w w' : World} (h : Env w) (hb : Below w.heap.size w w') : Env w' :=
 ⟨var_below hb h.pow, h.ml.imp fun _ e => var_below hb e, h.es.imp fun _ e => e.imp fun _ e => var_below hb e, h.er.imp fun _ e => e.imp fun _ e => var_below hb e⟩
theorem Env.max {w : World} (h : Env w) : ∃ m : Int, w.cell? ⟨5, 0, none⟩ = some (.int .i64 m) := by
 obtain ⟨m, hm⟩ := h.ml
 refine ⟨m, ?_⟩
 have := World.var?_cell (show Tryz.prog.globalNamed "internal/bytealg.MaxLen" = some 5 by kernel_rfl) hm 0
 simpa using this
end Go.Proofs.YtlhajfepcggjaaaGreatDoor.R
