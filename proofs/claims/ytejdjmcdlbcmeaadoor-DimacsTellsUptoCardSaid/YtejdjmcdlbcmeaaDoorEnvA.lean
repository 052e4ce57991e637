/- dimacs.ReadAnswer under the premise of the laws that hold it against the reference. No conditions. -/
import Derived.Test.YtejdjmcdlbcmeaaDoorEnvU
import Derived.Test.YtejdjmcdlbcmeaaDoorTellR
namespace Go.Proofs.YtejdjmcdlbcmeaaDoor.U
open Go.RowKit Go.Proofs.YtejdjmcdlbcmeaaDoorW.PrintWords
def dimacs_ReadAnswer.f : ByteArray → Option (Bool × List Bool × Int × Int) := R.dimacs_ReadAnswer.f
theorem dimacs_ReadAnswer.calls (a0 : ByteArray) (r1 : Bool) (r2 : List Bool) (r3 r4 : Int) (w : World) (hE : Env w) (h : dimacs_ReadAnswer.f a0 = some (r1, r2, r3, r4)) :
    Calls Tryd.prog 24 #[.string a0] w fun e w' => ∃ v1_ : Value, e = .returned (.tuple #[.bool r1, v1_, .int .i64 r3, .int .i64 r4]) ∧ Kd.R Kd.bool 4 w' w.heap.size (fun _ => True) v1_ r2 ∧ Below w.heap.size w w' :=
  R.dimacs_ReadAnswer.calls a0 r1 r2 r3 r4 w hE.r h
end Go.Proofs.YtejdjmcdlbcmeaaDoor.U
