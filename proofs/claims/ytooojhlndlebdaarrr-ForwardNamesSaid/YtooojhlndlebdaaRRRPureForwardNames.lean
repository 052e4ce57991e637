/- The pure part of the statement ForwardNames: the law's printed function answers true. It has no conditions. -/
import Derived.Test.YtooojhlndlebdaaRRRPForwardNamesx1
namespace Go.Proofs.YtooojhlndlebdaaRRR.Pure
open Go.RowKit Go.Proofs.YtooojhlndlebdaaRRR.PForwardNames Go.Proofs.YtooojhlndlebdaaRRRW.PrintWords Go.Proofs.YtooojhlndlebdaaRRRW.PrintLast

/-- The three numbers are the named ones. -/
theorem ForwardNames : depotlaw11_ForwardNames.Pure := by
  rfl

end Go.Proofs.YtooojhlndlebdaaRRR.Pure
