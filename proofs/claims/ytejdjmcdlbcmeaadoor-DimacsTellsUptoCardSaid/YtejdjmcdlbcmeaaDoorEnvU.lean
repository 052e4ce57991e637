/- The premise on the world of the law that compares dimacs.Read with the reference; dimacs.Read under it. No conditions. -/
import Derived.Test.YtejdjmcdlbcmeaaDoorReadD
namespace Go.Proofs.YtejdjmcdlbcmeaaDoor.U
open Go.RowKit Go.Proofs.YtejdjmcdlbcmeaaDoorW.PrintWords

structure Env (w : World) : Prop where
  r : R.Env w
  pow : Lib.TabIs Tryd.prog w "internal/strconv.uint64pow10" .u64 Lib.pow10Tab
  es : ∃ tp p, w.var? Tryd.prog "strconv.ErrSyntax" = some #[.iface tp p]
  er : ∃ tp p, w.var? Tryd.prog "strconv.ErrRange" = some #[.iface tp p]
theorem Env.below {w w' : World} (h : Env w) (hb : Below w.heap.size w w') : Env w' :=
  ⟨h.r.below hb, R.var_below hb h.pow, h.es.imp fun _ e => e.imp fun _ e => R.var_below hb e, h.er.imp fun _ e => e.imp fun _ e => R.var_below hb e⟩
def dimacs_Read.f : ByteArray → Option (Int × List (List Int) × Int × Int) := R.dimacs_Read.f
theorem dimacs_Read.calls (a0 : ByteArray) (r1 : Int) (r2 : List (List Int)) (r3 r4 : Int) (w : World) (hE : Env w) (h : dimacs_Read.f a0 = some (r1, r2, r3, r4)) :
    Calls Tryd.prog 22 #[.string a0] w fun e w' => ∃ v1_ : Value, e = .returned (.tuple #[.agg #[.int .i64 r1, v1_], .int .i64 r3, .int .i64 r4]) ∧ Kd.S (Kd.slice 3 (Kd.int .i64)) 35 w' w.heap.size (fun _ => True) v1_ r2 ∧ Below w.heap.size w w' :=
  R.dimacs_Read.calls a0 r1 r2 r3 r4 w hE.r h
end Go.Proofs.YtejdjmcdlbcmeaaDoor.U
