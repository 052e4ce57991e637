/- The premise on the world of the laws that write and read; dimacs.Read, Write and strconv.Itoa under it. No conditions. -/
import Derived.Test.YtejdjmcdlbcmeaaDoorReadD
import Derived.Test.YtejdjmcdlbcmeaaDoorFormP
namespace Go.Proofs.YtejdjmcdlbcmeaaDoor.T
open Go.RowKit Go.Proofs.YtejdjmcdlbcmeaaDoorW.PrintWords

structure Env (w : World) : Prop where
  r : R.Env w
  p : P.Env w
theorem Env.below {w w' : World} (h : Env w) (hb : Below w.heap.size w w') : Env w' := ⟨h.r.below hb, h.p.below hb⟩
def dimacs_Read.f : ByteArray → Option (Int × List (List Int) × Int × Int) := R.dimacs_Read.f
theorem dimacs_Read.calls (a0 : ByteArray) (r1 : Int) (r2 : List (List Int)) (r3 r4 : Int) (w : World) (hE : Env w) (h : dimacs_Read.f a0 = some (r1, r2, r3, r4)) :
    Calls Tryd.prog 22 #[.string a0] w fun e w' => ∃ v1_ : Value, e = .returned (.tuple #[.agg #[.int .i64 r1, v1_], .int .i64 r3, .int .i64 r4]) ∧ Kd.S (Kd.slice 3 (Kd.int .i64)) 35 w' w.heap.size (fun _ => True) v1_ r2 ∧ Below w.heap.size w w' :=
  R.dimacs_Read.calls a0 r1 r2 r3 r4 w hE.r h
def dimacs_Write.f : Int → List (List Int) → Option (ByteArray × Int) := P.dimacs_Write.f
theorem dimacs_Write.calls (a0_0 : Int) (A0_1 : Option Addr) (c0_1 : Nat) (l0_1 : List (List Int)) (r1 : ByteArray) (r2 : Int) (w : World) (hr0_1 : Kd.C (Kd.slice 3 (Kd.int .i64)) w A0_1 l0_1.length l0_1) (hc0_1 : l0_1.length ≤ c0_1) (hE : Env w) (h : dimacs_Write.f a0_0 l0_1 = some (r1, r2)) :
    Calls Tryd.prog 15 #[.agg #[.int .i64 a0_0, .slice A0_1 l0_1.length c0_1]] w fun e w' => e = .returned (.tuple #[.string r1, .int .i64 r2]) ∧ Below w.heap.size w w' :=
  P.dimacs_Write.calls a0_0 A0_1 c0_1 l0_1 r1 r2 w hr0_1 hc0_1 hE.p h
def strconv_Itoa_20.f : Int → Option ByteArray := P.strconv_Itoa_20.f
theorem strconv_Itoa_20.calls (a0 : Int) (r : ByteArray) (w : World) (hE : Env w) (h : strconv_Itoa_20.f a0 = some r) :
    Calls Tryd.prog 20 #[.int .i64 a0] w fun e w' => e = .returned (.string r) ∧ Below w.heap.size w w' :=
  P.strconv_Itoa_20.calls a0 r w hE.p h
end Go.Proofs.YtejdjmcdlbcmeaaDoor.T
