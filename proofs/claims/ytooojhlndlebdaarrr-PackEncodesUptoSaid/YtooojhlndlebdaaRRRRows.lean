/-
  No cell of these rows narrows 'for every input' (looked for: loops, veiled, ifaces, maps, wideKeys, modest, calm, conditions, laid).
  DERIVED. THE GIVEN ROWS OF THIS SEAT. 5 by the template 'for every input the law returns true; each argument reads behind the call as it read before'; 0 by the template 'total and deterministic' (their statements: YtooojhlndlebdaaRRRTotals.lean).
  GIVEN WITH THE SEED: the statements are not yours to turn. If you find one false, say at which input.
  Laid BY PROGRAM, IN A SANDBOX (cutbox-rows.mjs): the forced cells as the released guide's own fill.sh prints them over the translation 614f629a850aa3b1… (all of the seat's roots in one cut). By AI agents, Wed Nov 11 2026. No macro, syntax, notation, axiom, sorry.
-/
import Derived.Test.YtooojhlndlebdaaRRRChecked
import GoSem.Claim
import GoSem.ClaimJoined
import GoSem.ClaimMapViews
import Derived.JoinedTies
import Derived.KernelRfl
namespace Go.Proofs.YtooojhlndlebdaaRRR
/- THE CELL 'sum', in the pinned program and in every row, IS THE sha256 OF THE DUMP (.gsa) THAT YtooojhlndlebdaaRRRProg.lean LOADS. Nothing in Lean hashes anything: it is a label: what it is worth is what the hold of that sum in a sandbox is worth. -/
noncomputable def Try.pinned : Pinned := { name := "ytooojhlndlebdaarrr", sum := "614f629a850aa3b180fd11ba5e2860603f340d13b400c5701ff9b9519cbec219", checked := Try.checked }
namespace Rows
def none {H : Type} : Left H := { results := [], args := [] }

/-- 'depotlaw11.ForwardNames': WHATEVER THE INPUT: true; the input reads as it did. -/
def forwardNamesSpec : ChangeSpec := { name := "forwardNames", fn := fun _ => fun
  | [] => { results := [.lit (.bool true)], args := [] }
  | _ => none }
def forwardNamesRow : OpenClaim := { program := "ytooojhlndlebdaarrr", sum := "614f629a850aa3b180fd11ba5e2860603f340d13b400c5701ff9b9519cbec219", func := "depot/depotlaw11.ForwardNames", spec := "forwardNames", apart := false }
def ForwardNamesSaid : Prop := forwardNamesRow.holds Try.pinned (OpenSpec.ofChange forwardNamesSpec)

/-- ITS FALSE NEIGHBOUR: 'it returns false'. Refute it at one input. -/
def forwardNamesWrong : ChangeSpec := { name := "forwardNames", fn := fun _ => fun
  | [] => { results := [.lit (.bool false)], args := [] }
  | _ => none }
def ForwardNamesWrongFalsely : Prop := forwardNamesRow.holds Try.pinned (OpenSpec.ofChange forwardNamesWrong)

/-- 'depotlaw28.EncodeDecodes': WHATEVER THE INPUT: true; the input reads as it did. -/
def encodeDecodesSpec : ChangeSpec := { name := "encodeDecodes", fn := fun _ => fun
  | [d1, d2] => { results := [.lit (.bool true)], args := [d1, d2] }
  | _ => none }
def encodeDecodesRow : OpenClaim := { program := "ytooojhlndlebdaarrr", sum := "614f629a850aa3b180fd11ba5e2860603f340d13b400c5701ff9b9519cbec219", func := "depot/depotlaw28.EncodeDecodes", spec := "encodeDecodes", apart := false }
def EncodeDecodesSaid : Prop := encodeDecodesRow.holds Try.pinned (OpenSpec.ofChange encodeDecodesSpec)

/-- ITS FALSE NEIGHBOUR: 'it returns false'. Refute it at one input. -/
def encodeDecodesWrong : ChangeSpec := { name := "encodeDecodes", fn := fun _ => fun
  | [d1, d2] => { results := [.lit (.bool false)], args := [d1, d2] }
  | _ => none }
def EncodeDecodesWrongFalsely : Prop := encodeDecodesRow.holds Try.pinned (OpenSpec.ofChange encodeDecodesWrong)

/-- 'depotlaw10.PackTakes': WHATEVER THE INPUT: true; the input reads as it did. -/
def packTakesSpec : ChangeSpec := { name := "packTakes", fn := fun _ => fun
  | [d1, d2] => { results := [.lit (.bool true)], args := [d1, d2] }
  | _ => none }
def packTakesRow : OpenClaim := { program := "ytooojhlndlebdaarrr", sum := "614f629a850aa3b180fd11ba5e2860603f340d13b400c5701ff9b9519cbec219", func := "depot/depotlaw10.PackTakes", spec := "packTakes", apart := false }
def PackTakesSaid : Prop := packTakesRow.holds Try.pinned (OpenSpec.ofChange packTakesSpec)

/-- ITS FALSE NEIGHBOUR: 'it returns false'. Refute it at one input. -/
def packTakesWrong : ChangeSpec := { name := "packTakes", fn := fun _ => fun
  | [d1, d2] => { results := [.lit (.bool false)], args := [d1, d2] }
  | _ => none }
def PackTakesWrongFalsely : Prop := packTakesRow.holds Try.pinned (OpenSpec.ofChange packTakesWrong)

/-- 'depotlaw10.PackBack': WHATEVER THE INPUT: true; the input reads as it did. -/
def packBackSpec : ChangeSpec := { name := "packBack", fn := fun _ => fun
  | [d1, d2] => { results := [.lit (.bool true)], args := [d1, d2] }
  | _ => none }
def packBackRow : OpenClaim := { program := "ytooojhlndlebdaarrr", sum := "614f629a850aa3b180fd11ba5e2860603f340d13b400c5701ff9b9519cbec219", func := "depot/depotlaw10.PackBack", spec := "packBack", apart := false }
def PackBackSaid : Prop := packBackRow.holds Try.pinned (OpenSpec.ofChange packBackSpec)

/-- ITS FALSE NEIGHBOUR: 'it returns false'. Refute it at one input. -/
def packBackWrong : ChangeSpec := { name := "packBack", fn := fun _ => fun
  | [d1, d2] => { results := [.lit (.bool false)], args := [d1, d2] }
  | _ => none }
def PackBackWrongFalsely : Prop := packBackRow.holds Try.pinned (OpenSpec.ofChange packBackWrong)

/-- 'depotlaw10.PackEncodes': WHATEVER THE INPUT: true; the input reads as it did. -/
def packEncodesSpec : ChangeSpec := { name := "packEncodes", fn := fun _ => fun
  | [d] => { results := [.lit (.bool true)], args := [d] }
  | _ => none }
def packEncodesRow : OpenClaim := { program := "ytooojhlndlebdaarrr", sum := "614f629a850aa3b180fd11ba5e2860603f340d13b400c5701ff9b9519cbec219", func := "depot/depotlaw10.PackEncodes", spec := "packEncodes", apart := false }
def PackEncodesSaid : Prop := packEncodesRow.holds Try.pinned (OpenSpec.ofChange packEncodesSpec)

/-- ITS FALSE NEIGHBOUR: 'it returns false'. Refute it at one input. -/
def packEncodesWrong : ChangeSpec := { name := "packEncodes", fn := fun _ => fun
  | [d] => { results := [.lit (.bool false)], args := [d] }
  | _ => none }
def PackEncodesWrongFalsely : Prop := packEncodesRow.holds Try.pinned (OpenSpec.ofChange packEncodesWrong)

/- THE SECOND FORM. 'bulk': how many values and letters a reading holds, each counted each time it is reached (what is shared counts as often as it is met; a slice's spare places count too). A statement '..UptoSaid' is the law's where the arguments, and the package variables that the reading takes, are together of bulk at most 1048576: NARROWER than '..Said'. Prove '..Said' where nothing that the law and all that it calls make is longer than what came in: it says more and counts as full. Else prove '..UptoSaid'. A law counts once. -/
mutual
def uptoBulk {H : Type} : DataW H → Nat
  | .lit (.string bytes) => bytes.length + 1
  | .lit _ => 1
  | .nil => 1
  | .ptr d => uptoBulk d + 1
  | .slice elems spare => uptoBulkAll elems + uptoBulkAll spare + 1
  | .agg parts => uptoBulkAll parts + 1
  | .iface _ d => uptoBulk d + 1
  | .map entries => uptoBulkEntries entries + 1
  | .held _ => 1
def uptoBulkAll {H : Type} : List (DataW H) → Nat
  | [] => 0
  | d :: r => uptoBulk d + uptoBulkAll r
def uptoBulkEntries {H : Type} : List (Lit × DataW H) → Nat
  | [] => 0
  | x :: r => uptoBulkEntry x + uptoBulkEntries r
def uptoBulkEntry {H : Type} : Lit × DataW H → Nat
  | (.string bytes, d) => bytes.length + uptoBulk d + 1
  | (_, d) => uptoBulk d + 1
 end
def uptoSmall : (H : Type) → List (DataW H) → Bool := fun _ ds => decide (uptoBulkAll ds ≤ 1048576)
def OpenSpec.upto (s : _root_.Go.ChangeSpec) : _root_.Go.OpenSpec := { _root_.Go.OpenSpec.ofChange s with cond := some uptoSmall }

/-- 'depotlaw11.ForwardNames', WHERE WHAT IT READS IS OF BULK AT MOST 1048576: true; the input reads as it did. -/
def forwardNamesUptoRow : OpenClaim := { program := "ytooojhlndlebdaarrr", sum := "614f629a850aa3b180fd11ba5e2860603f340d13b400c5701ff9b9519cbec219", func := "depot/depotlaw11.ForwardNames", spec := "forwardNames", apart := false, narrowed := true }
def ForwardNamesUptoSaid : Prop := forwardNamesUptoRow.holds Try.pinned (OpenSpec.upto forwardNamesSpec)

/-- 'depotlaw28.EncodeDecodes', WHERE WHAT IT READS IS OF BULK AT MOST 1048576: true; the input reads as it did. -/
def encodeDecodesUptoRow : OpenClaim := { program := "ytooojhlndlebdaarrr", sum := "614f629a850aa3b180fd11ba5e2860603f340d13b400c5701ff9b9519cbec219", func := "depot/depotlaw28.EncodeDecodes", spec := "encodeDecodes", apart := false, narrowed := true }
def EncodeDecodesUptoSaid : Prop := encodeDecodesUptoRow.holds Try.pinned (OpenSpec.upto encodeDecodesSpec)

/-- 'depotlaw10.PackTakes', WHERE WHAT IT READS IS OF BULK AT MOST 1048576: true; the input reads as it did. -/
def packTakesUptoRow : OpenClaim := { program := "ytooojhlndlebdaarrr", sum := "614f629a850aa3b180fd11ba5e2860603f340d13b400c5701ff9b9519cbec219", func := "depot/depotlaw10.PackTakes", spec := "packTakes", apart := false, narrowed := true }
def PackTakesUptoSaid : Prop := packTakesUptoRow.holds Try.pinned (OpenSpec.upto packTakesSpec)

/-- 'depotlaw10.PackBack', WHERE WHAT IT READS IS OF BULK AT MOST 1048576: true; the input reads as it did. -/
def packBackUptoRow : OpenClaim := { program := "ytooojhlndlebdaarrr", sum := "614f629a850aa3b180fd11ba5e2860603f340d13b400c5701ff9b9519cbec219", func := "depot/depotlaw10.PackBack", spec := "packBack", apart := false, narrowed := true }
def PackBackUptoSaid : Prop := packBackUptoRow.holds Try.pinned (OpenSpec.upto packBackSpec)

/-- 'depotlaw10.PackEncodes', WHERE WHAT IT READS IS OF BULK AT MOST 1048576: true; the input reads as it did. -/
def packEncodesUptoRow : OpenClaim := { program := "ytooojhlndlebdaarrr", sum := "614f629a850aa3b180fd11ba5e2860603f340d13b400c5701ff9b9519cbec219", func := "depot/depotlaw10.PackEncodes", spec := "packEncodes", apart := false, narrowed := true }
def PackEncodesUptoSaid : Prop := packEncodesUptoRow.holds Try.pinned (OpenSpec.upto packEncodesSpec)

end Rows
end Go.Proofs.YtooojhlndlebdaaRRR
