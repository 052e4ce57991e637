/- dimacs.WriteAnswer and ReadAnswer under the premise of the laws that write and read. No conditions. -/
import Derived.Test.YtejdjmcdlbcmeaaDoorEnvT
import Derived.Test.YtejdjmcdlbcmeaaDoorEDimSaysP
import Derived.Test.YtejdjmcdlbcmeaaDoorTellR
namespace Go.Proofs.YtejdjmcdlbcmeaaDoor.T
open Go.RowKit Go.Proofs.YtejdjmcdlbcmeaaDoorW.PrintWords
def dimacs_ReadAnswer.f : ByteArray → Option (Bool × List Bool × Int × Int) := R.dimacs_ReadAnswer.f
theorem dimacs_ReadAnswer.calls (a0 : ByteArray) (r1 : Bool) (r2 : List Bool) (r3 r4 : Int) (w : World) (hE : Env w) (h : dimacs_ReadAnswer.f a0 = some (r1, r2, r3, r4)) :
    Calls Tryd.prog 24 #[.string a0] w fun e w' => ∃ v1_ : Value, e = .returned (.tuple #[.bool r1, v1_, .int .i64 r3, .int .i64 r4]) ∧ Kd.R Kd.bool 4 w' w.heap.size (fun _ => True) v1_ r2 ∧ Below w.heap.size w w' :=
  R.dimacs_ReadAnswer.calls a0 r1 r2 r3 r4 w hE.r h
def dimacs_WriteAnswer.f : Bool → List Bool → Option ByteArray := P.dimacs_WriteAnswer.f
theorem dimacs_WriteAnswer.calls (a0 : Bool) (A1 : Option Addr) (c1 : Nat) (l1 : List Bool) (r : ByteArray) (w : World) (hr1 : Kd.C Kd.bool w A1 l1.length l1) (hc1 : l1.length ≤ c1) (hE : Env w) (h : dimacs_WriteAnswer.f a0 l1 = some r) :
    Calls Tryd.prog 12 #[.bool a0, .slice A1 l1.length c1] w fun e w' => e = .returned (.string r) ∧ Below w.heap.size w w' :=
  P.dimacs_WriteAnswer.calls a0 A1 c1 l1 r w hr1 hc1 hE.p h
end Go.Proofs.YtejdjmcdlbcmeaaDoor.T
