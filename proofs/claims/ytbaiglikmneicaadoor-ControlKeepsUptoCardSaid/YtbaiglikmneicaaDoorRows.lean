/-
  NARROWER THAN 'FOR EVERY INPUT', by the rows' own cells (each row's printed sentence says how): ControlNumbers: laid · ControlReads: laid · ControlShapes: laid · ControlWrites: laid · ControlKeeps: laid · ControlBack: laid · ControlAgain: laid · ControlIdle: laid.
  DERIVED. THE GIVEN ROWS OF THIS SEAT. 8 by the template 'for every input the law returns true; each argument reads behind the call as it read before'; 0 by the template 'total and deterministic' (their statements: YtbaiglikmneicaaDoorTotals.lean).
  GIVEN WITH THE SEED: the statements are not yours to turn. If you find one false, say at which input.
  Laid BY PROGRAM, IN A SANDBOX (cutbox-rows.mjs): the forced cells as the released guide's own fill.sh prints them over the translation f20ce6b514498bc7… (all of the seat's roots in one cut). By AI agents, Wed Nov 11 2026. No macro, syntax, notation, axiom, sorry.
-/
import Derived.Test.YtbaiglikmneicaaDoorChecked
import GoSem.PinnedTables
import GoSem.Claim
import GoSem.ClaimJoined
import GoSem.ClaimMapViews
import Derived.JoinedTies
import Derived.KernelRfl
namespace Go.Proofs.YtbaiglikmneicaaDoor
/- THE CELL 'sum', in the pinned program and in every row, IS THE sha256 OF THE DUMP (.gsa) THAT YtbaiglikmneicaaDoorProg.lean LOADS. Nothing in Lean hashes anything: it is a label: what it is worth is what the hold of that sum in a sandbox is worth. -/
noncomputable def Tryd.pinned : Pinned := { name := "ytbaiglikmneicaadoor", sum := "f20ce6b514498bc79d84ddc12e78838864f01e3ba9fd49934a2c650034e0be32", checked := Tryd.checked }
namespace Rows
def none {H : Type} : Left H := { results := [], args := [] }

/- WHAT THE LISTED PACKAGE-LEVEL VARIABLES READ AS WHEN THE CALL BEGINS. Each datum BY PROGRAM (the guide's laid-datum.mjs) off the statement by which the dump's own 'gosem.cut.vars' lays the variable. In a bare row this is a premise. The card (YtbaiglikmneicaaDoorCards.lean) ties it to the program's text. -/
def laid_unicode_utf8_acceptRanges {H : Type} : DataW H := .agg [.agg [.lit (.int .u8 128), .lit (.int .u8 191)], .agg [.lit (.int .u8 160), .lit (.int .u8 191)], .agg [.lit (.int .u8 128), .lit (.int .u8 159)], .agg [.lit (.int .u8 144), .lit (.int .u8 191)], .agg [.lit (.int .u8 128), .lit (.int .u8 143)], .agg [.lit (.int .u8 0), .lit (.int .u8 0)], .agg [.lit (.int .u8 0), .lit (.int .u8 0)], .agg [.lit (.int .u8 0), .lit (.int .u8 0)], .agg [.lit (.int .u8 0), .lit (.int .u8 0)], .agg [.lit (.int .u8 0), .lit (.int .u8 0)], .agg [.lit (.int .u8 0), .lit (.int .u8 0)], .agg [.lit (.int .u8 0), .lit (.int .u8 0)], .agg [.lit (.int .u8 0), .lit (.int .u8 0)], .agg [.lit (.int .u8 0), .lit (.int .u8 0)], .agg [.lit (.int .u8 0), .lit (.int .u8 0)], .agg [.lit (.int .u8 0), .lit (.int .u8 0)]]
/-- One of Go's own tables, pinned by name: the form's constant. -/
def laid_unicode_utf8_first : DataW Unit := Go.Pinned.utf8First

/-- 'depotlaw21.ControlNumbers': WHATEVER THE INPUT: true; the input reads as it did. -/
def controlNumbersSpec : ChangeSpec := { name := "controlNumbers", fn := fun _ => fun
  | [] => { results := [.lit (.bool true)], args := [] }
  | _ => none }
def controlNumbersRow : OpenClaim := { program := "ytbaiglikmneicaadoor", sum := "f20ce6b514498bc79d84ddc12e78838864f01e3ba9fd49934a2c650034e0be32", func := "depot/depotlaw21.ControlNumbers", spec := "controlNumbers", inPlace := ["internal/bytealg.IndexByteString", "internal/bytealg.IndexString"], named := ["internal/bytealg.MaxLen", "unicode/utf8.first", "unicode/utf8.acceptRanges"], apart := false, laid := [("unicode/utf8.acceptRanges", laid_unicode_utf8_acceptRanges), ("unicode/utf8.first", laid_unicode_utf8_first)] }
def ControlNumbersSaid : Prop := controlNumbersRow.holds Tryd.pinned (OpenSpec.ofChange controlNumbersSpec)

/-- ITS FALSE NEIGHBOUR: 'it returns false'. Refute it at one input. -/
def controlNumbersWrong : ChangeSpec := { name := "controlNumbers", fn := fun _ => fun
  | [] => { results := [.lit (.bool false)], args := [] }
  | _ => none }
def ControlNumbersWrongFalsely : Prop := controlNumbersRow.holds Tryd.pinned (OpenSpec.ofChange controlNumbersWrong)

/-- 'depotlaw21.ControlReads': WHATEVER THE INPUT: true; the input reads as it did. -/
def controlReadsSpec : ChangeSpec := { name := "controlReads", fn := fun _ => fun
  | [d] => { results := [.lit (.bool true)], args := [d] }
  | _ => none }
def controlReadsRow : OpenClaim := { program := "ytbaiglikmneicaadoor", sum := "f20ce6b514498bc79d84ddc12e78838864f01e3ba9fd49934a2c650034e0be32", func := "depot/depotlaw21.ControlReads", spec := "controlReads", inPlace := ["internal/bytealg.IndexByteString", "internal/bytealg.IndexString"], named := ["internal/bytealg.MaxLen", "unicode/utf8.first", "unicode/utf8.acceptRanges"], apart := false, laid := [("unicode/utf8.acceptRanges", laid_unicode_utf8_acceptRanges), ("unicode/utf8.first", laid_unicode_utf8_first)] }
def ControlReadsSaid : Prop := controlReadsRow.holds Tryd.pinned (OpenSpec.ofChange controlReadsSpec)

/-- ITS FALSE NEIGHBOUR: 'it returns false'. Refute it at one input. -/
def controlReadsWrong : ChangeSpec := { name := "controlReads", fn := fun _ => fun
  | [d] => { results := [.lit (.bool false)], args := [d] }
  | _ => none }
def ControlReadsWrongFalsely : Prop := controlReadsRow.holds Tryd.pinned (OpenSpec.ofChange controlReadsWrong)

/-- 'depotlaw21.ControlShapes': WHATEVER THE INPUT: true; the input reads as it did. -/
def controlShapesSpec : ChangeSpec := { name := "controlShapes", fn := fun _ => fun
  | [d] => { results := [.lit (.bool true)], args := [d] }
  | _ => none }
def controlShapesRow : OpenClaim := { program := "ytbaiglikmneicaadoor", sum := "f20ce6b514498bc79d84ddc12e78838864f01e3ba9fd49934a2c650034e0be32", func := "depot/depotlaw21.ControlShapes", spec := "controlShapes", inPlace := ["internal/bytealg.CountString", "internal/bytealg.IndexByteString", "internal/bytealg.IndexString"], named := ["unicode/utf8.first", "unicode/utf8.acceptRanges", "internal/bytealg.MaxLen"], apart := false, laid := [("unicode/utf8.acceptRanges", laid_unicode_utf8_acceptRanges), ("unicode/utf8.first", laid_unicode_utf8_first)] }
def ControlShapesSaid : Prop := controlShapesRow.holds Tryd.pinned (OpenSpec.ofChange controlShapesSpec)

/-- ITS FALSE NEIGHBOUR: 'it returns false'. Refute it at one input. -/
def controlShapesWrong : ChangeSpec := { name := "controlShapes", fn := fun _ => fun
  | [d] => { results := [.lit (.bool false)], args := [d] }
  | _ => none }
def ControlShapesWrongFalsely : Prop := controlShapesRow.holds Tryd.pinned (OpenSpec.ofChange controlShapesWrong)

/-- 'depotlaw21.ControlWrites': WHATEVER THE INPUT: true; the input reads as it did. -/
def controlWritesSpec : ChangeSpec := { name := "controlWrites", fn := fun _ => fun
  | [d] => { results := [.lit (.bool true)], args := [d] }
  | _ => none }
def controlWritesRow : OpenClaim := { program := "ytbaiglikmneicaadoor", sum := "f20ce6b514498bc79d84ddc12e78838864f01e3ba9fd49934a2c650034e0be32", func := "depot/depotlaw21.ControlWrites", spec := "controlWrites", inPlace := ["internal/bytealg.CountString", "internal/bytealg.IndexByteString", "internal/bytealg.IndexString", "internal/abi.NoEscape"], named := ["unicode/utf8.first", "unicode/utf8.acceptRanges", "internal/bytealg.MaxLen"], apart := false, laid := [("unicode/utf8.acceptRanges", laid_unicode_utf8_acceptRanges), ("unicode/utf8.first", laid_unicode_utf8_first)] }
def ControlWritesSaid : Prop := controlWritesRow.holds Tryd.pinned (OpenSpec.ofChange controlWritesSpec)

/-- ITS FALSE NEIGHBOUR: 'it returns false'. Refute it at one input. -/
def controlWritesWrong : ChangeSpec := { name := "controlWrites", fn := fun _ => fun
  | [d] => { results := [.lit (.bool false)], args := [d] }
  | _ => none }
def ControlWritesWrongFalsely : Prop := controlWritesRow.holds Tryd.pinned (OpenSpec.ofChange controlWritesWrong)

/-- 'depotlaw21.ControlKeeps': WHATEVER THE INPUT: true; the input reads as it did. -/
def controlKeepsSpec : ChangeSpec := { name := "controlKeeps", fn := fun _ => fun
  | [d1, d2, d3] => { results := [.lit (.bool true)], args := [d1, d2, d3] }
  | _ => none }
def controlKeepsRow : OpenClaim := { program := "ytbaiglikmneicaadoor", sum := "f20ce6b514498bc79d84ddc12e78838864f01e3ba9fd49934a2c650034e0be32", func := "depot/depotlaw21.ControlKeeps", spec := "controlKeeps", inPlace := ["internal/bytealg.CountString", "internal/bytealg.IndexByteString", "internal/bytealg.IndexString", "internal/abi.NoEscape"], named := ["unicode/utf8.first", "unicode/utf8.acceptRanges", "internal/bytealg.MaxLen"], apart := false, laid := [("unicode/utf8.acceptRanges", laid_unicode_utf8_acceptRanges), ("unicode/utf8.first", laid_unicode_utf8_first)] }
def ControlKeepsSaid : Prop := controlKeepsRow.holds Tryd.pinned (OpenSpec.ofChange controlKeepsSpec)

/-- ITS FALSE NEIGHBOUR: 'it returns false'. Refute it at one input. -/
def controlKeepsWrong : ChangeSpec := { name := "controlKeeps", fn := fun _ => fun
  | [d1, d2, d3] => { results := [.lit (.bool false)], args := [d1, d2, d3] }
  | _ => none }
def ControlKeepsWrongFalsely : Prop := controlKeepsRow.holds Tryd.pinned (OpenSpec.ofChange controlKeepsWrong)

/-- 'depotlaw21.ControlBack': WHATEVER THE INPUT: true; the input reads as it did. -/
def controlBackSpec : ChangeSpec := { name := "controlBack", fn := fun _ => fun
  | [d] => { results := [.lit (.bool true)], args := [d] }
  | _ => none }
def controlBackRow : OpenClaim := { program := "ytbaiglikmneicaadoor", sum := "f20ce6b514498bc79d84ddc12e78838864f01e3ba9fd49934a2c650034e0be32", func := "depot/depotlaw21.ControlBack", spec := "controlBack", inPlace := ["internal/bytealg.CountString", "internal/bytealg.IndexByteString", "internal/bytealg.IndexString", "internal/abi.NoEscape"], named := ["unicode/utf8.first", "unicode/utf8.acceptRanges", "internal/bytealg.MaxLen"], apart := false, laid := [("unicode/utf8.acceptRanges", laid_unicode_utf8_acceptRanges), ("unicode/utf8.first", laid_unicode_utf8_first)] }
def ControlBackSaid : Prop := controlBackRow.holds Tryd.pinned (OpenSpec.ofChange controlBackSpec)

/-- ITS FALSE NEIGHBOUR: 'it returns false'. Refute it at one input. -/
def controlBackWrong : ChangeSpec := { name := "controlBack", fn := fun _ => fun
  | [d] => { results := [.lit (.bool false)], args := [d] }
  | _ => none }
def ControlBackWrongFalsely : Prop := controlBackRow.holds Tryd.pinned (OpenSpec.ofChange controlBackWrong)

/-- 'depotlaw21.ControlAgain': WHATEVER THE INPUT: true; the input reads as it did. -/
def controlAgainSpec : ChangeSpec := { name := "controlAgain", fn := fun _ => fun
  | [d] => { results := [.lit (.bool true)], args := [d] }
  | _ => none }
def controlAgainRow : OpenClaim := { program := "ytbaiglikmneicaadoor", sum := "f20ce6b514498bc79d84ddc12e78838864f01e3ba9fd49934a2c650034e0be32", func := "depot/depotlaw21.ControlAgain", spec := "controlAgain", inPlace := ["internal/bytealg.IndexByteString", "internal/bytealg.IndexString", "internal/bytealg.CountString", "internal/abi.NoEscape"], named := ["internal/bytealg.MaxLen", "unicode/utf8.first", "unicode/utf8.acceptRanges"], apart := false, laid := [("unicode/utf8.acceptRanges", laid_unicode_utf8_acceptRanges), ("unicode/utf8.first", laid_unicode_utf8_first)] }
def ControlAgainSaid : Prop := controlAgainRow.holds Tryd.pinned (OpenSpec.ofChange controlAgainSpec)

/-- ITS FALSE NEIGHBOUR: 'it returns false'. Refute it at one input. -/
def controlAgainWrong : ChangeSpec := { name := "controlAgain", fn := fun _ => fun
  | [d] => { results := [.lit (.bool false)], args := [d] }
  | _ => none }
def ControlAgainWrongFalsely : Prop := controlAgainRow.holds Tryd.pinned (OpenSpec.ofChange controlAgainWrong)

/-- 'depotlaw21.ControlIdle': WHATEVER THE INPUT: true; the input reads as it did. -/
def controlIdleSpec : ChangeSpec := { name := "controlIdle", fn := fun _ => fun
  | [d1, d2] => { results := [.lit (.bool true)], args := [d1, d2] }
  | _ => none }
def controlIdleRow : OpenClaim := { program := "ytbaiglikmneicaadoor", sum := "f20ce6b514498bc79d84ddc12e78838864f01e3ba9fd49934a2c650034e0be32", func := "depot/depotlaw21.ControlIdle", spec := "controlIdle", inPlace := ["internal/bytealg.CountString", "internal/bytealg.IndexByteString", "internal/bytealg.IndexString", "internal/abi.NoEscape"], named := ["unicode/utf8.first", "unicode/utf8.acceptRanges", "internal/bytealg.MaxLen"], apart := false, laid := [("unicode/utf8.acceptRanges", laid_unicode_utf8_acceptRanges), ("unicode/utf8.first", laid_unicode_utf8_first)] }
def ControlIdleSaid : Prop := controlIdleRow.holds Tryd.pinned (OpenSpec.ofChange controlIdleSpec)

/-- ITS FALSE NEIGHBOUR: 'it returns false'. Refute it at one input. -/
def controlIdleWrong : ChangeSpec := { name := "controlIdle", fn := fun _ => fun
  | [d1, d2] => { results := [.lit (.bool false)], args := [d1, d2] }
  | _ => none }
def ControlIdleWrongFalsely : Prop := controlIdleRow.holds Tryd.pinned (OpenSpec.ofChange controlIdleWrong)

/- THE SECOND FORM. 'bulk': how many values and letters a reading holds, each counted each time it is reached (what is shared counts as often as it is met; a slice's spare places count too). A statement '..UptoSaid' is the law's where the arguments, and the package variables that the reading takes, are together of bulk at most 1048576: NARROWER than '..Said'. Prove '..Said' where nothing that the law and all that it calls make is longer than what came in: it says more and counts as full. Else prove '..UptoSaid'. A law counts once. -/
mutual
def uptoBulk {H : Type} : DataW H → Nat
  | .lit (.string bytes) => bytes.length + 1
  | .lit _ => 1
  | .nil => 1
  | .ptr d => uptoBulk d + 1
  | .slice elems spare => uptoBulkAll elems + uptoBulkAll spare + 1
  | .agg parts => uptoBulkAll parts + 1
  | .iface _ d => uptoBulk d + 1
  | .map entries => uptoBulkEntries entries + 1
  | .held _ => 1
def uptoBulkAll {H : Type} : List (DataW H) → Nat
  | [] => 0
  | d :: r => uptoBulk d + uptoBulkAll r
def uptoBulkEntries {H : Type} : List (Lit × DataW H) → Nat
  | [] => 0
  | x :: r => uptoBulkEntry x + uptoBulkEntries r
def uptoBulkEntry {H : Type} : Lit × DataW H → Nat
  | (.string bytes, d) => bytes.length + uptoBulk d + 1
  | (_, d) => uptoBulk d + 1
 end
def uptoSmall : (H : Type) → List (DataW H) → Bool := fun _ ds => decide (uptoBulkAll ds ≤ 1048576)
def OpenSpec.upto (s : _root_.Go.ChangeSpec) : _root_.Go.OpenSpec := { _root_.Go.OpenSpec.ofChange s with cond := some uptoSmall }

/-- 'depotlaw21.ControlNumbers', WHERE WHAT IT READS IS OF BULK AT MOST 1048576: true; the input reads as it did. -/
def controlNumbersUptoRow : OpenClaim := { program := "ytbaiglikmneicaadoor", sum := "f20ce6b514498bc79d84ddc12e78838864f01e3ba9fd49934a2c650034e0be32", func := "depot/depotlaw21.ControlNumbers", spec := "controlNumbers", inPlace := ["internal/bytealg.IndexByteString", "internal/bytealg.IndexString"], named := ["internal/bytealg.MaxLen", "unicode/utf8.first", "unicode/utf8.acceptRanges"], apart := false, laid := [("unicode/utf8.acceptRanges", laid_unicode_utf8_acceptRanges), ("unicode/utf8.first", laid_unicode_utf8_first)], narrowed := true }
def ControlNumbersUptoSaid : Prop := controlNumbersUptoRow.holds Tryd.pinned (OpenSpec.upto controlNumbersSpec)

/-- 'depotlaw21.ControlReads', WHERE WHAT IT READS IS OF BULK AT MOST 1048576: true; the input reads as it did. -/
def controlReadsUptoRow : OpenClaim := { program := "ytbaiglikmneicaadoor", sum := "f20ce6b514498bc79d84ddc12e78838864f01e3ba9fd49934a2c650034e0be32", func := "depot/depotlaw21.ControlReads", spec := "controlReads", inPlace := ["internal/bytealg.IndexByteString", "internal/bytealg.IndexString"], named := ["internal/bytealg.MaxLen", "unicode/utf8.first", "unicode/utf8.acceptRanges"], apart := false, laid := [("unicode/utf8.acceptRanges", laid_unicode_utf8_acceptRanges), ("unicode/utf8.first", laid_unicode_utf8_first)], narrowed := true }
def ControlReadsUptoSaid : Prop := controlReadsUptoRow.holds Tryd.pinned (OpenSpec.upto controlReadsSpec)

/-- 'depotlaw21.ControlShapes', WHERE WHAT IT READS IS OF BULK AT MOST 1048576: true; the input reads as it did. -/
def controlShapesUptoRow : OpenClaim := { program := "ytbaiglikmneicaadoor", sum := "f20ce6b514498bc79d84ddc12e78838864f01e3ba9fd49934a2c650034e0be32", func := "depot/depotlaw21.ControlShapes", spec := "controlShapes", inPlace := ["internal/bytealg.CountString", "internal/bytealg.IndexByteString", "internal/bytealg.IndexString"], named := ["unicode/utf8.first", "unicode/utf8.acceptRanges", "internal/bytealg.MaxLen"], apart := false, laid := [("unicode/utf8.acceptRanges", laid_unicode_utf8_acceptRanges), ("unicode/utf8.first", laid_unicode_utf8_first)], narrowed := true }
def ControlShapesUptoSaid : Prop := controlShapesUptoRow.holds Tryd.pinned (OpenSpec.upto controlShapesSpec)

/-- 'depotlaw21.ControlWrites', WHERE WHAT IT READS IS OF BULK AT MOST 1048576: true; the input reads as it did. -/
def controlWritesUptoRow : OpenClaim := { program := "ytbaiglikmneicaadoor", sum := "f20ce6b514498bc79d84ddc12e78838864f01e3ba9fd49934a2c650034e0be32", func := "depot/depotlaw21.ControlWrites", spec := "controlWrites", inPlace := ["internal/bytealg.CountString", "internal/bytealg.IndexByteString", "internal/bytealg.IndexString", "internal/abi.NoEscape"], named := ["unicode/utf8.first", "unicode/utf8.acceptRanges", "internal/bytealg.MaxLen"], apart := false, laid := [("unicode/utf8.acceptRanges", laid_unicode_utf8_acceptRanges), ("unicode/utf8.first", laid_unicode_utf8_first)], narrowed := true }
def ControlWritesUptoSaid : Prop := controlWritesUptoRow.holds Tryd.pinned (OpenSpec.upto controlWritesSpec)

/-- 'depotlaw21.ControlKeeps', WHERE WHAT IT READS IS OF BULK AT MOST 1048576: true; the input reads as it did. -/
def controlKeepsUptoRow : OpenClaim := { program := "ytbaiglikmneicaadoor", sum := "f20ce6b514498bc79d84ddc12e78838864f01e3ba9fd49934a2c650034e0be32", func := "depot/depotlaw21.ControlKeeps", spec := "controlKeeps", inPlace := ["internal/bytealg.CountString", "internal/bytealg.IndexByteString", "internal/bytealg.IndexString", "internal/abi.NoEscape"], named := ["unicode/utf8.first", "unicode/utf8.acceptRanges", "internal/bytealg.MaxLen"], apart := false, laid := [("unicode/utf8.acceptRanges", laid_unicode_utf8_acceptRanges), ("unicode/utf8.first", laid_unicode_utf8_first)], narrowed := true }
def ControlKeepsUptoSaid : Prop := controlKeepsUptoRow.holds Tryd.pinned (OpenSpec.upto controlKeepsSpec)

/-- 'depotlaw21.ControlBack', WHERE WHAT IT READS IS OF BULK AT MOST 1048576: true; the input reads as it did. -/
def controlBackUptoRow : OpenClaim := { program := "ytbaiglikmneicaadoor", sum := "f20ce6b514498bc79d84ddc12e78838864f01e3ba9fd49934a2c650034e0be32", func := "depot/depotlaw21.ControlBack", spec := "controlBack", inPlace := ["internal/bytealg.CountString", "internal/bytealg.IndexByteString", "internal/bytealg.IndexString", "internal/abi.NoEscape"], named := ["unicode/utf8.first", "unicode/utf8.acceptRanges", "internal/bytealg.MaxLen"], apart := false, laid := [("unicode/utf8.acceptRanges", laid_unicode_utf8_acceptRanges), ("unicode/utf8.first", laid_unicode_utf8_first)], narrowed := true }
def ControlBackUptoSaid : Prop := controlBackUptoRow.holds Tryd.pinned (OpenSpec.upto controlBackSpec)

/-- 'depotlaw21.ControlAgain', WHERE WHAT IT READS IS OF BULK AT MOST 1048576: true; the input reads as it did. -/
def controlAgainUptoRow : OpenClaim := { program := "ytbaiglikmneicaadoor", sum := "f20ce6b514498bc79d84ddc12e78838864f01e3ba9fd49934a2c650034e0be32", func := "depot/depotlaw21.ControlAgain", spec := "controlAgain", inPlace := ["internal/bytealg.IndexByteString", "internal/bytealg.IndexString", "internal/bytealg.CountString", "internal/abi.NoEscape"], named := ["internal/bytealg.MaxLen", "unicode/utf8.first", "unicode/utf8.acceptRanges"], apart := false, laid := [("unicode/utf8.acceptRanges", laid_unicode_utf8_acceptRanges), ("unicode/utf8.first", laid_unicode_utf8_first)], narrowed := true }
def ControlAgainUptoSaid : Prop := controlAgainUptoRow.holds Tryd.pinned (OpenSpec.upto controlAgainSpec)

/-- 'depotlaw21.ControlIdle', WHERE WHAT IT READS IS OF BULK AT MOST 1048576: true; the input reads as it did. -/
def controlIdleUptoRow : OpenClaim := { program := "ytbaiglikmneicaadoor", sum := "f20ce6b514498bc79d84ddc12e78838864f01e3ba9fd49934a2c650034e0be32", func := "depot/depotlaw21.ControlIdle", spec := "controlIdle", inPlace := ["internal/bytealg.CountString", "internal/bytealg.IndexByteString", "internal/bytealg.IndexString", "internal/abi.NoEscape"], named := ["unicode/utf8.first", "unicode/utf8.acceptRanges", "internal/bytealg.MaxLen"], apart := false, laid := [("unicode/utf8.acceptRanges", laid_unicode_utf8_acceptRanges), ("unicode/utf8.first", laid_unicode_utf8_first)], narrowed := true }
def ControlIdleUptoSaid : Prop := controlIdleUptoRow.holds Tryd.pinned (OpenSpec.upto controlIdleSpec)

end Rows
end Go.Proofs.YtbaiglikmneicaaDoor
