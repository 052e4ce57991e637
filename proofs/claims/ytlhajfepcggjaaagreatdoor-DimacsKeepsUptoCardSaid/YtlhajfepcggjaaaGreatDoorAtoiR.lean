/- strconv.Atoi and Itoa at this seat, under one premise on the world. No conditions. -/
import Derived.Test.YtlhajfepcggjaaaGreatDoorEnvR
import Derived.Test.YtlhajfepcggjaaaGreatDoorShelfR
import Derived.Test.YtlhajfepcggjaaaGreatDoorWK
import Derived.Shelf.Strconv.ErrVarAll
import Derived.Lib.AppendIntMem
set_option linter.unusedVariables false
namespace Go.Proofs.YtlhajfepcggjaaaGreatDoor.R
open Go.RowKit Go.Proofs.YtlhajfepcggjaaaGreatDoorW.PrintWords

/-- What strconv.Itoa comes to. -/
def strconv_Itoa_21.f (a0 : Int) : Option ByteArray := if -9223372036854775808 ≤ a0 ∧ a0 ≤ 9223372036854775807 then some ⟨(Lib.itoa a0).toArray⟩ else none
theorem strconv_Itoa_21.calls (a0 : Int) (r : ByteArray) (w : World) (hE : Env w) (h : strconv_Itoa_21.f a0 = some r) :
  Calls Tryz.prog 21 #[.int .i64 a0] w fun e w' => e = .returned (.string r) ∧ Below w.heap.size w w' := by
 unfold strconv_Itoa_21.f at h
 by_cases hr : -9223372036854775808 ≤ a0 ∧ a0 ≤ 9223372036854775807
 ·rw [if_pos hr] at h
  obtain rfl := Option.some.inj h
  refine (Tryz.strconv_Itoa a0 hr.1 hr.2 w hE.pow).mono ?_
  rintro e w' ⟨rfl, k, os, rfl⟩
  exact ⟨rfl, Lib.below_grow _ _ (Nat.le_refl _) _ _⟩
 ·rw [if_neg hr] at h
  cases h
/-- What strconv.Atoi comes to, at every text. -/
def AtoiEnds (s : ByteArray) (e : Ending) : Prop :=
 (∃ n, Lib.atoiAll s.data.toList = .ok n ∧ e = .returned (.tuple #[.int .i64 n, .nilIface])) ∨
 ((∀ n, Lib.atoiAll s.data.toList ≠ .ok n) ∧ ∃ v N, e = .returned (.tuple #[.int .i64 v, .iface 129 (.pointer (some ⟨N, 0, none⟩))]))
theorem atoi_any (s : ByteArray) (hs : s.size ≤ 281474976710656) (w : World) (hE : Env w) :
  Calls Tryz.prog 69 #[.string s] w fun e w' => AtoiEnds s e ∧ Below w.heap.size w w' := by
 cases h : Lib.atoiAll s.data.toList with
 | ok n =>
  refine (Tryz.strconv_Atoi_ok s (by omega) n h w).mono ?_
  rintro e w' ⟨rfl, rfl | ⟨t, rfl⟩⟩
  ·exact ⟨Or.inl ⟨n, h, rfl⟩, Below.refl _ _⟩
  ·exact ⟨Or.inl ⟨n, h, rfl⟩, Lib.bytesWorld_below _ _ _⟩
 | range =>
  obtain ⟨tp, p, hv⟩ := hE.er
  refine (Any.strconv_Atoi_range_var Tryz.laysC172 s hs h tp p w hv).mono ?_
  rintro e w' ⟨N, rfl, _, _, hb⟩
  exact ⟨Or.inr ⟨fun n hn => (by rw [h] at hn; cases hn), _, N, rfl⟩, hb⟩
 | _ =>
  obtain ⟨tp, p, hv⟩ := hE.es
  refine (Any.strconv_Atoi_syntax_var Tryz.laysC172 s hs h tp p w hv).mono ?_
  rintro e w' ⟨N, rfl, _, _, hb⟩
  exact ⟨Or.inr ⟨fun n hn => (by rw [h] at hn; cases hn), _, N, rfl⟩, hb⟩
end Go.Proofs.YtlhajfepcggjaaaGreatDoor.R
