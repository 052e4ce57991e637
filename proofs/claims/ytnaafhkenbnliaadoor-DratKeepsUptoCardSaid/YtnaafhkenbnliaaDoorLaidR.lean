/- From what a row lists of the world, and from the world's shape, to what the walks ask of it (Env). No conditions. -/
import Derived.Test.YtnaafhkenbnliaaDoorRows
import Derived.Test.YtnaafhkenbnliaaDoorEnvR
import Derived.LaidSub
import Derived.Lib.LaidTab
import Derived.Shelf.Vars
namespace Go.Proofs.YtnaafhkenbnliaaDoor.R
open Go.RowKit

theorem pow_of {W : World} (h : laidMetH Tryd.prog [("internal/strconv.uint64pow10", Rows.laid_internal_strconv_uint64pow10)] W) : Lib.TabIs Tryd.prog W "internal/strconv.uint64pow10" .u64 Lib.pow10Tab :=
  Lib.tabIs_of_head (k := .u64) (zs := Lib.pow10Tab) (rest := []) (show Tryd.prog.globalNamed "internal/strconv.uint64pow10" = some 0 by kernel_rfl) (t := 96) (by kernel_rfl) (by kernel_rfl) (e := 87) (n := 20) (by kernel_rfl) (by kernel_rfl) (by kernel_rfl)
    (by
      have e : (Rows.laid_internal_strconv_uint64pow10 : DataW Unit) = Lib.tabData .u64 Lib.pow10Tab := by kernel_rfl
      rw [← e]; exact h)
/-- A variable that is listed as an error holds an interface value. -/
theorem iface_of {W : World} {name nm : String} {d : DataW Unit} {g : Nat} {t : TypeId} {ms : Array (String × TypeId)} (hg : Tryd.prog.globalNamed name = some g) (hty : (Tryd.prog.globals[g]?).map (·.type) = some t) (hi : Tryd.prog.underlying t = some (.interface ms))
    (h : laidMet Tryd.prog [(name, .iface nm d)] W) : ∃ tp p, W.var? Tryd.prog name = some #[.iface tp p] := by
  obtain ⟨ps, ⟨g', t', cs, fuel, p, q, hg', ht', hvar, hd, _, _⟩, _⟩ := h
  obtain rfl := Option.some.inj (hg.symm.trans hg')
  obtain rfl := Option.some.inj (hty.symm.trans ht')
  obtain ⟨_, u, v, hcs, _, _⟩ := iface_of_trod hi hd
  refine ⟨u, v, ?_⟩
  exact hvar.trans (congrArg some (Array.ext' hcs))
theorem er_of {W : World} (h : laidMetH Tryd.prog [("strconv.ErrRange", Rows.laid_strconv_ErrRange)] W) : ∃ tp p, W.var? Tryd.prog "strconv.ErrRange" = some #[.iface tp p] :=
  iface_of (show Tryd.prog.globalNamed "strconv.ErrRange" = some 3 by kernel_rfl) (t := 55) (by kernel_rfl) Tryd.underlying55 h
theorem es_of {W : World} (h : laidMetH Tryd.prog [("strconv.ErrSyntax", Rows.laid_strconv_ErrSyntax)] W) : ∃ tp p, W.var? Tryd.prog "strconv.ErrSyntax" = some #[.iface tp p] :=
  iface_of (show Tryd.prog.globalNamed "strconv.ErrSyntax" = some 2 by kernel_rfl) (t := 55) (by kernel_rfl) Tryd.underlying55 h
theorem ml_of {W : World} (h : W.ShapedOpen Tryd.prog) : ∃ m : Int, W.var? Tryd.prog "internal/bytealg.MaxLen" = some #[.int .i64 m] := by
  obtain ⟨m, hm⟩ := cell_of_shapedOpen_int (g := 1) (t := 3) (zero := #[.int .i64 0]) (k := .i64) h (of_decide_eq_true (by kernel_rfl)) (by kernel_rfl) rfl (by kernel_rfl) (by kernel_rfl) Tryd.underlying3
  obtain ⟨cs, hh, hs, _⟩ := h.1 1 #[.int .i64 0] 3 (of_decide_eq_true (by kernel_rfl)) (by kernel_rfl)
  refine ⟨m, ?_⟩
  have hs1 : cs.size = 1 := hs
  unfold World.var?
  rw [show Tryd.prog.globalNamed "internal/bytealg.MaxLen" = some 1 by kernel_rfl]
  simp only [Option.bind_some, hh]
  refine congrArg some ?_
  have hc : cs[0]? = some (.int .i64 m) := by
    unfold World.cell? at hm
    simp only [hh] at hm
    simpa using hm
  apply Array.ext
  · simpa using hs1
  · intro i h1 h2
    have hi : i = 0 := by simp at h2; omega
    subst hi
    rw [Array.getElem?_eq_getElem h1] at hc
    simpa using hc
end Go.Proofs.YtnaafhkenbnliaaDoor.R
