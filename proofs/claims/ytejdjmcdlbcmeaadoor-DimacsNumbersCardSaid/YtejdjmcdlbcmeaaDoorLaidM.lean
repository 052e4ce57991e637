/- From the world's shape to what the walks ask of it (Env). No conditions. -/
import Derived.Test.YtejdjmcdlbcmeaaDoorRows
import Derived.Test.YtejdjmcdlbcmeaaDoorLibR
import Derived.LaidSub
import Derived.Lib.LaidTab
import Derived.Shelf.Vars
namespace Go.Proofs.YtejdjmcdlbcmeaaDoor.R
open Go.RowKit

theorem ml_of {W : World} (h : W.ShapedOpen Tryd.prog) : ∃ m : Int, W.var? Tryd.prog "internal/bytealg.MaxLen" = some #[.int .i64 m] := by
  obtain ⟨m, hm⟩ := cell_of_shapedOpen_int (g := 5) (t := 3) (zero := #[.int .i64 0]) (k := .i64) h (of_decide_eq_true (by kernel_rfl)) (by kernel_rfl) rfl (by kernel_rfl) (by kernel_rfl) Tryd.underlying3
  obtain ⟨cs, hh, hs, _⟩ := h.1 5 #[.int .i64 0] 3 (of_decide_eq_true (by kernel_rfl)) (by kernel_rfl)
  refine ⟨m, ?_⟩
  have hs1 : cs.size = 1 := hs
  unfold World.var?
  rw [show Tryd.prog.globalNamed "internal/bytealg.MaxLen" = some 5 by kernel_rfl]
  simp only [Option.bind_some, hh]
  refine congrArg some ?_
  have hc : cs[0]? = some (.int .i64 m) := by
    unfold World.cell? at hm
    simp only [hh] at hm
    simpa using hm
  apply Array.ext
  · simpa using hs1
  · intro i h1 h2
    have hi : i = 0 := by simp at h2; omega
    subst hi
    rw [Array.getElem?_eq_getElem h1] at hc
    simpa using hc
end Go.Proofs.YtejdjmcdlbcmeaaDoor.R
