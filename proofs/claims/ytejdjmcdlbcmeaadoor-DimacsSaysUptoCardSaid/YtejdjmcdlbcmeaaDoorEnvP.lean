/- The premise on the world that the writers of numbers ask: the library's table of powers of ten reads as its text lays it. -/
import Derived.Test.YtejdjmcdlbcmeaaDoorProg
import Derived.Lib.LaidTab
import Derived.Below
import Derived.Shelf.Strconv.Itoa3
namespace Go.Proofs.YtejdjmcdlbcmeaaDoor.P
open Go.RowKit

/-- The library's table of powers of ten. -/
structure Env (w : World) : Prop where
  pow : Lib.TabIs Tryd.prog w "internal/strconv.uint64pow10" .u64 Lib.pow10Tab
theorem var_below {w w' : World} {n : String} {cs : Array Value} (hb : Below w.heap.size w w') (hv : w.var? Tryd.prog n = some cs) : w'.var? Tryd.prog n = some cs := by
  unfold World.var? at hv ⊢
  cases hg : Tryd.prog.globalNamed n with
  | none => rw [hg] at hv; simp at hv
  | some g =>
    rw [hg] at hv
    simp only [Option.bind_some] at hv ⊢
    have hlt : g < w.heap.size := by
      rcases Nat.lt_or_ge g w.heap.size with h | h
      · exact h
      · rw [Array.getElem?_eq_none h] at hv
        simp at hv
    rw [hb.block g hlt]
    exact hv
theorem Env.below {w w' : World} (h : Env w) (hb : Below w.heap.size w w') : Env w' := ⟨var_below hb h.pow⟩
end Go.Proofs.YtejdjmcdlbcmeaaDoor.P
