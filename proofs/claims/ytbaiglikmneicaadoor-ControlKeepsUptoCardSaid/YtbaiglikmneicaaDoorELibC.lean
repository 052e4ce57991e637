/- A byte below 128 parts a text of letters (UTF-8) in two that are judged apart. No conditions. strings.Cut, HasPrefix, Trim and Split: what they come to, as the print asks it. No conditions. -/
import Derived.Lib.ValidLaws
import Derived.Test.YtbaiglikmneicaaDoorPx0
import Derived.Test.YtbaiglikmneicaaDoorEnvC
import Derived.Test.YtbaiglikmneicaaDoorPureL
section
set_option linter.unusedVariables false
set_option linter.unusedSimpArgs false
namespace Go.Proofs.YtbaiglikmneicaaDoor.C
open Go.Lib
/-- A byte of a text in which only tabs and, where they may be, line feeds are control bytes. -/
def okC (feeds : Bool) (c : UInt8) : Bool := (decide (32 ≤ c.toNat) || c == 9 || (feeds && c == 10)) && c != 127
def fairL (feeds : Bool) (l : List UInt8) : Bool := l.all (okC feeds) && validD l
end Go.Proofs.YtbaiglikmneicaaDoor.C
end
section
set_option linter.unusedVariables false
set_option linter.unusedSimpArgs false
namespace Go.Proofs.YtbaiglikmneicaaDoor.P
open Go.RowKit Go.Lib Go.Proofs.YtbaiglikmneicaaDoorW.PrintWords Go.Proofs.YtbaiglikmneicaaDoorW.PrintLast Go.Proofs.YtbaiglikmneicaaDoorW.PrintMore
open Go.Proofs.YtbaiglikmneicaaDoor.R (mkB mkB_size pieces split_pieces)

/-- What strings.HasPrefix comes to. -/
def strings_HasPrefix.f (a0 a1 : ByteArray) : Option Bool := some (hasPrefix a0.data.toList a1.data.toList)
theorem strings_HasPrefix.calls (a0 a1 : ByteArray) (r : Bool) (w : World) (h : strings_HasPrefix.f a0 a1 = some r) :
    Calls Tryd.prog 29 #[.string a0, .string a1] w fun e w' => e = .returned (.bool r) ∧ ∃ n, w' = w.drewN n := by
  obtain rfl := Option.some.inj h
  refine (Tryd.strings_HasPrefix a0 a1 w).mono ?_
  rintro e w' ⟨rfl, rfl⟩
  exact ⟨rfl, 0, rfl⟩
/-- What strings.Cut comes to. -/
def strings_Cut.f (a0 a1 : ByteArray) : Option (ByteArray × ByteArray × Bool) := if a0.size < 4294967281 then some (mkB (cut a0.data.toList a1.data.toList).1, mkB (cut a0.data.toList a1.data.toList).2.1, (cut a0.data.toList a1.data.toList).2.2) else none
theorem strings_Cut.calls (a0 a1 : ByteArray) (r1 r2 : ByteArray) (r3 : Bool) (w : World) (hE : Env w) (h : strings_Cut.f a0 a1 = some (r1, r2, r3)) :
    Calls Tryd.prog 27 #[.string a0, .string a1] w fun e w' => e = .returned (.tuple #[.string r1, .string r2, .bool r3]) ∧ ∃ n, w' = w.drewN n := by
  unfold strings_Cut.f at h
  by_cases hs : a0.size < 4294967281
  · rw [if_pos hs] at h
    obtain ⟨m, hm⟩ := hE.max
    have e := Option.some.inj h
    simp only [Prod.mk.injEq] at e
    obtain ⟨rfl, rfl, rfl⟩ := e
    exact Tryd.strings_Cut a0 a1 m w hs hm
  · rw [if_neg hs] at h
    cases h
/-- The blanks. -/
def blanksC : List UInt8 := [32, 9]
/-- A text without the blanks at its ends. -/
def trimC (l : List UInt8) : List UInt8 := trimS l blanksC
/-- What strings.Trim comes to, at the blanks. -/
def strings_Trim.f (a0 a1 : ByteArray) : Option ByteArray := if a0.size ≤ 4398046511104 ∧ a1 = mkB blanksC then some (mkB (trimC a0.data.toList)) else none
theorem blanks_ascii : ∀ (j : Nat) b, (mkB blanksC).data.toList[j]? = some b → b.toNat < 128 := by
  intro j b h
  match j, h with
  | 0, h => obtain rfl := Option.some.inj h; decide
  | 1, h => obtain rfl := Option.some.inj h; decide
  | j + 2, h => simp [mkB, blanksC] at h
theorem strings_Trim.calls (a0 a1 : ByteArray) (r : ByteArray) (w : World) (h : strings_Trim.f a0 a1 = some r) :
    Calls Tryd.prog 30 #[.string a0, .string a1] w fun e w' => e = .returned (.string r) ∧ Below w.heap.size w w' := by
  unfold strings_Trim.f at h
  by_cases hs : a0.size ≤ 4398046511104 ∧ a1 = mkB blanksC
  · rw [if_pos hs] at h
    obtain ⟨hs, rfl⟩ := hs
    obtain rfl := Option.some.inj h
    exact Tryd.strings_Trim_ascii a0 (mkB blanksC) w (by omega) (by decide) blanks_ascii
  · rw [if_neg hs] at h
    cases h
/-- What strings.Split comes to, at a line feed. -/
def strings_Split.f (a0 a1 : ByteArray) : Option (List ByteArray) := if a0.size < 4294967281 ∧ a1 = mkB [10] then some ((pieces a0.data.toList).map mkB) else none
theorem strings_Split.calls (a0 a1 : ByteArray) (r : List ByteArray) (w : World) (hE : Env w) (h : strings_Split.f a0 a1 = some r) :
    Calls Tryd.prog 41 #[.string a0, .string a1] w fun e w' => ∃ v0_ : Value, e = .returned v0_ ∧ Kd.R Kd.string 9 w' w.heap.size (fun _ => True) v0_ r ∧ Below w.heap.size w w' := by
  unfold strings_Split.f at h
  by_cases hs : a0.size < 4294967281 ∧ a1 = mkB [10]
  · rw [if_pos hs] at h
    obtain ⟨hs, rfl⟩ := hs
    obtain rfl := Option.some.inj h
    obtain ⟨m, hm⟩ := hE.max
    have hlen := Lib.splitB_all (mkB [10]) (by decide) 0 (Lib.countB a0 (mkB [10])) a0 rfl
    have hcl := Lib.countB_le (mkB [10]) (by decide) a0.size a0 (Nat.le_refl _)
    rw [split_pieces] at hlen
    refine (Tryd.strings_Split a0 (mkB [10]) m w hs hm (by decide)).mono ?_
    rintro e w' ⟨rfl, rfl⟩
    rw [split_pieces, ← hlen]
    refine ⟨_, rfl, ?_, (Below.refl _ w).alloc (Nat.le_refl _) _⟩
    refine Kd.R_of_own ?_ (fun _ _ => trivial)
    have := World.ownsRow_lit (base := w.heap.size) (e := 9) (size := 1) w ((((pieces a0.data.toList).map mkB).map Value.string).toArray) ((pieces a0.data.toList).map mkB).length (Nat.le_refl _) (by unfold maxLen; omega) (by simp)
    simpa [encs] using this
  · rw [if_neg hs] at h
    cases h
end Go.Proofs.YtbaiglikmneicaaDoor.P
end
