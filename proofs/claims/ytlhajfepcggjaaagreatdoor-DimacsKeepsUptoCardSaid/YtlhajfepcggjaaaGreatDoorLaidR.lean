/- From what a row lists of the world, and from the world's shape, to what the walks ask of it (Env). No conditions. -/
import Derived.Test.YtlhajfepcggjaaaGreatDoorRows
import Derived.Test.YtlhajfepcggjaaaGreatDoorEnvR
import Derived.LaidSub
import Derived.Lib.LaidTab
import Derived.Shelf.Vars
namespace Go.Proofs.YtlhajfepcggjaaaGreatDoor.R
open Go.RowKit

theorem pow_of {W : World} (h : laidMetH Tryz.prog [("internal/strconv.uint64pow10", Rows.laid_internal_strconv_uint64pow10)] W) : Lib.TabIs Tryz.prog W "internal/strconv.uint64pow10" .u64 Lib.pow10Tab :=
 Lib.tabIs_of_head (k := .u64) (zs := Lib.pow10Tab) (rest := []) (show Tryz.prog.globalNamed "internal/strconv.uint64pow10" = some 0 by kernel_rfl) (t := 119) (by kernel_rfl) (by kernel_rfl) (e := 108) (n := 20) (by kernel_rfl) (by kernel_rfl) (by kernel_rfl)
  (by
   have e : (Rows.laid_internal_strconv_uint64pow10 : DataW Unit) = Lib.tabData .u64 Lib.pow10Tab := by kernel_rfl
   rw [← e]; exact h)
/-- A variable that is listed as an error holds an interface value. -/
theorem iface_of {W : World} {name nm : String} {d : DataW Unit} {g : Nat} {t : TypeId} {ms : Array (String × TypeId)} (hg : Tryz.prog.globalNamed name = some g) (hty : (Tryz.prog.globals[g]?).map (·.type) = some t) (hi : Tryz.prog.underlying t = some (.interface ms))
  (h : laidMet Tryz.prog [(name, .iface nm d)] W) : ∃ tp p, W.var? Tryz.prog name = some #[.iface tp p] := by
 obtain ⟨ps, ⟨g', t', cs, fuel, p, q, hg', ht', hvar, hd, _, _⟩, _⟩ := h
 obtain rfl := Option.some.inj (hg.symm.trans hg')
 obtain rfl := Option.some.inj (hty.symm.trans ht')
 obtain ⟨_, u, v, hcs, _, _⟩ := iface_of_trod hi hd
 refine ⟨u, v, ?_⟩
 exact hvar.trans (congrArg some (Array.ext' hcs))
theorem er_of {W : World} (h : laidMetH Tryz.prog [("strconv.ErrRange", Rows.laid_strconv_ErrRange)] W) : ∃ tp p, W.var? Tryz.prog "strconv.ErrRange" = some #[.iface tp p] :=
 iface_of (show Tryz.prog.globalNamed "strconv.ErrRange" = some 2 by kernel_rfl) (t := 52) (by kernel_rfl) Tryz.underlying52 h
theorem es_of {W : World} (h : laidMetH Tryz.prog [("strconv.ErrSyntax", Rows.laid_strconv_ErrSyntax)] W) : ∃ tp p, W.var? Tryz.prog "strconv.ErrSyntax" = some #[.iface tp p] :=
 iface_of (show Tryz.prog.globalNamed "strconv.ErrSyntax" = some 1 by kernel_rfl) (t := 52) (by kernel_rfl) Tryz.underlying52 h
theorem ml_of {W : World} (h : W.ShapedOpen Tryz.prog) : ∃ m : Int, W.var? Tryz.prog "internal/bytealg.MaxLen" = some #[.int .i64 m] := by
 obtain ⟨m, hm⟩ := cell_of_shapedOpen_int (g := 5) (t := 3) (zero := #[.int .i64 0]) (k := .i64) h (of_decide_eq_true (by kernel_rfl)) (by kernel_rfl) rfl (by kernel_rfl) (by kernel_rfl) Tryz.underlying3
 obtain ⟨cs, hh, hs, _⟩ := h.1 5 #[.int .i64 0] 3 (of_decide_eq_true (by kernel_rfl)) (by kernel_rfl)
 refine ⟨m, ?_⟩
 have hs1 : cs.size = 1 := hs
 unfold World.var?
 rw [show Tryz.prog.globalNamed "internal/bytealg.MaxLen" = some 5 by kernel_rfl]
 simp only [Option.bind_some, hh]
 refine congrArg some ?_
 have hc : cs[0]? = some (.int .i64 m) := by
  unfold World.cell? at hm
  simp only [hh] at hm
  simpa using hm
 apply Array.ext
 ·simpa using hs1
 ·intro i h1 h2
  have hi : i = 0 := by simp at h2; omega
  subst hi
  rw [Array.getElem?_eq_getElem h1] at hc
  simpa using hc
end Go.Proofs.YtlhajfepcggjaaaGreatDoor.R
