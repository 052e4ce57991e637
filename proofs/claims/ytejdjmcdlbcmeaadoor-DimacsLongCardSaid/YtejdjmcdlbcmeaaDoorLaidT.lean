/- From what a row lists of the world, and from its shape, to what the walks of the laws that write and read ask of it. No conditions. -/
import Derived.Test.YtejdjmcdlbcmeaaDoorLaidM
import Derived.Test.YtejdjmcdlbcmeaaDoorEnvT
namespace Go.Proofs.YtejdjmcdlbcmeaaDoor.T
open Go.RowKit

theorem pow_of {W : World} (h : laidMetH Tryd.prog [("internal/strconv.uint64pow10", Rows.laid_internal_strconv_uint64pow10)] W) : Lib.TabIs Tryd.prog W "internal/strconv.uint64pow10" .u64 Lib.pow10Tab :=
  Lib.tabIs_of_head (k := .u64) (zs := Lib.pow10Tab) (rest := []) (show Tryd.prog.globalNamed "internal/strconv.uint64pow10" = some 0 by kernel_rfl) (t := 105) (by kernel_rfl) (by kernel_rfl) (e := 94) (n := 20) (by kernel_rfl) (by kernel_rfl) (by kernel_rfl)
    (by
      have e : (Rows.laid_internal_strconv_uint64pow10 : DataW Unit) = Lib.tabData .u64 Lib.pow10Tab := by kernel_rfl
      rw [← e]; exact h)
end Go.Proofs.YtejdjmcdlbcmeaaDoor.T
