/- More on the builder that a call has made itself: a store beside it. No conditions. -/
import Derived.Test.YtejdjmcdlbcmeaaDoorBuilder
set_option linter.unusedVariables false
namespace Go.Proofs.YtejdjmcdlbcmeaaDoor.B
open Go.RowKit Go.Lib

/-- A store into another block of this call's, no row of bytes. -/
theorem Bld.setOther {w0 w : World} {xs : List UInt8} (h : Bld w0 xs w) {L : Nat} {cs : Array Value} {T : TypeId} {fz : Nat × Nat} (hL : w.heap[L]? = some (.cells cs T fz)) (hT : T ≠ 5) (hne : L ≠ w0.heap.size) (hle : w0.heap.size ≤ L) (j : Nat) (u : Value) : Bld w0 xs (w.setCell ⟨L, j, none⟩ u) := by
  have one : ∀ p, Lib.BuilderAt 49 5 w0.heap.size w0.heap.size p (Lib.byteCells xs) w → Lib.BuilderAt 49 5 w0.heap.size w0.heap.size p (Lib.byteCells xs) (w.setCell ⟨L, j, none⟩ u) := by
    rintro p ⟨hB, v, hbk, hown, hn⟩
    refine ⟨hB, v, (Below.heap_setCell _ _ _ _ (Ne.symm hne)).trans hbk, hown.kept (row := some L) ⟨rfl, rfl, rfl, by simp [World.setCell], fun k _ hk => Below.heap_setCell _ _ _ _ (fun e => hk (by simp [e]))⟩ (Or.inr (Lib.ownBlock_ne hown hL hT)), hn⟩
  exact ⟨h.b.imp (one _) (one _), h.below.setCell (p := ⟨L, j, none⟩) hle u⟩
end Go.Proofs.YtejdjmcdlbcmeaaDoor.B
