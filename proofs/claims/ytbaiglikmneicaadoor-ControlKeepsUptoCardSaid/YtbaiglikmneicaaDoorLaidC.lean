/- From what a row lists of the world, and from the world's shape, to what the walks ask of it (Env). No conditions. -/
import Derived.Test.YtbaiglikmneicaaDoorRows
import Derived.Test.YtbaiglikmneicaaDoorEnvC
import Derived.LaidSub
import Derived.Lib.LaidTab
import Derived.Lib.LaidU8T
import Derived.PinnedBridge
import Derived.Shelf.Vars
namespace Go.Proofs.YtbaiglikmneicaaDoor.P
open Go.RowKit Go.Lib

theorem first_of {W : World} (h : laidMetH Tryd.prog [("unicode/utf8.first", Rows.laid_unicode_utf8_first)] W) : VarReads Tryd.prog W "unicode/utf8.first" Lib.firstData := by
  rw [← Pinned.utf8First_eq]
  exact laidMet.reads (d := Rows.laid_unicode_utf8_first) h (by simp)
theorem accept_of {W : World} (h : laidMetH Tryd.prog [("unicode/utf8.acceptRanges", Rows.laid_unicode_utf8_acceptRanges)] W) : VarReads Tryd.prog W "unicode/utf8.acceptRanges" Lib.acceptData := by
  have e : (Rows.laid_unicode_utf8_acceptRanges : DataW Unit) = Lib.acceptData := by kernel_rfl
  rw [← e]
  exact laidMet.reads (d := Rows.laid_unicode_utf8_acceptRanges) h (by simp)
theorem u8_of {W : World} (h3 : laidMetH Tryd.prog [("unicode/utf8.first", Rows.laid_unicode_utf8_first)] W) (h4 : laidMetH Tryd.prog [("unicode/utf8.acceptRanges", Rows.laid_unicode_utf8_acceptRanges)] W) : Lib.Utf8Tabs 0 1 W :=
  utf8Tabs_of_readsT (ρ := Tryd.lays196_ren) (U8Types.of196 Tryd.lays196) ⟨by kernel_rfl, by kernel_rfl, by kernel_rfl, by kernel_rfl, by kernel_rfl, by kernel_rfl, by kernel_rfl⟩ (first_of h3) (accept_of h4)
theorem ml_of {W : World} (h : W.ShapedOpen Tryd.prog) : ∃ m : Int, W.var? Tryd.prog "internal/bytealg.MaxLen" = some #[.int .i64 m] := by
  obtain ⟨m, hm⟩ := cell_of_shapedOpen_int (g := 2) (t := 3) (zero := #[.int .i64 0]) (k := .i64) h (of_decide_eq_true (by kernel_rfl)) (by kernel_rfl) rfl (by kernel_rfl) (by kernel_rfl) Tryd.underlying3
  obtain ⟨cs, hh, hs, _⟩ := h.1 2 #[.int .i64 0] 3 (of_decide_eq_true (by kernel_rfl)) (by kernel_rfl)
  refine ⟨m, ?_⟩
  have hs1 : cs.size = 1 := hs
  unfold World.var?
  rw [show Tryd.prog.globalNamed "internal/bytealg.MaxLen" = some 2 by kernel_rfl]
  simp only [Option.bind_some, hh]
  refine congrArg some ?_
  have hc : cs[0]? = some (.int .i64 m) := by
    unfold World.cell? at hm
    simp only [hh] at hm
    simpa using hm
  apply Array.ext
  · simpa using hs1
  · intro i h1 h2
    have hi : i = 0 := by simp at h2; omega
    subst hi
    rw [Array.getElem?_eq_getElem h1] at hc
    simpa using hc
end Go.Proofs.YtbaiglikmneicaaDoor.P
