/-
  DERIVED. GIVEN WITH THE SEED: THE CARDS: each row of YtooojhlndlebdaaRRRDoorRRRRRows.lean that lists a variable, with what it lists TIED to the program's text (the seventh form; the later family's looks); each row that meets fmt, with fmt's text TOLD by the authors' own Lean function (tested against real Go, not proved from fmt's source: count such statements apart). THE CARD IS WHAT COUNTS. Prove the row's statement (the work); the ties are given (YtooojhlndlebdaaRRRDoorRRRRTie.lean); close each card by the builder's one call (the guide's Derived/Test/ToyasCard.lean, 'card_holds'). Laid BY PROGRAM, IN A SANDBOX (cutbox-door.mjs). By AI agents, Wed Nov 11 2026. No macro, syntax, notation, axiom, sorry.
-/
import Derived.Test.YtooojhlndlebdaaRRRDoorRRRRRows
import GoSem.ClaimSeven
namespace Go.Proofs.YtooojhlndlebdaaRRRDoorRRRR
namespace Rows

/-- THE TIED CARD OF 'depotlaw09.DratWrites'. -/
def dratWritesCard : Claim7 := { stood := { row := dratWritesRow, standIns := [], harness := (true, "f88a9725a1ead6463221d9c0cdf8d3d4b2214c69ed6f77c50baabee67ca598a0"), looks := true }, kinds := [], alts := [], laidByText := true, laidKinds := [.data, .data, .data], laidTests := true, laidLooks := .later }
def DratWritesCardSaid : Prop := Claim7.holds Tryd.pinned (.plain (OpenSpec.ofChange dratWritesSpec)) dratWritesCard

/-- THE TIED CARD OF 'depotlaw09.DratReads'. -/
def dratReadsCard : Claim7 := { stood := { row := dratReadsRow, standIns := [], harness := (true, "f88a9725a1ead6463221d9c0cdf8d3d4b2214c69ed6f77c50baabee67ca598a0"), looks := true }, kinds := [], alts := [], laidByText := true, laidKinds := [.data, .data, .data, .sentinel, .sentinel], laidTests := true, laidLooks := .later }
def DratReadsCardSaid : Prop := Claim7.holds Tryd.pinned (.plain (OpenSpec.ofChange dratReadsSpec)) dratReadsCard

/-- THE TIED CARD OF 'depotlaw09.DratLoose'. -/
def dratLooseCard : Claim7 := { stood := { row := dratLooseRow, standIns := [], harness := (true, "f88a9725a1ead6463221d9c0cdf8d3d4b2214c69ed6f77c50baabee67ca598a0"), looks := true }, kinds := [], alts := [], laidByText := true, laidKinds := [.data, .data, .data, .sentinel, .sentinel], laidTests := true, laidLooks := .later }
def DratLooseCardSaid : Prop := Claim7.holds Tryd.pinned (.plain (OpenSpec.ofChange dratLooseSpec)) dratLooseCard

/-- THE TIED CARD OF 'depotlaw09.DratNumbers'. -/
def dratNumbersCard : Claim7 := { stood := { row := dratNumbersRow, standIns := [], harness := (true, "f88a9725a1ead6463221d9c0cdf8d3d4b2214c69ed6f77c50baabee67ca598a0"), looks := true }, kinds := [], alts := [], laidByText := true, laidKinds := [.data, .data, .data, .sentinel, .sentinel], laidTests := true, laidLooks := .later }
def DratNumbersCardSaid : Prop := Claim7.holds Tryd.pinned (.plain (OpenSpec.ofChange dratNumbersSpec)) dratNumbersCard

/-- THE TIED CARD OF 'depotlaw09.DratSteps'. -/
def dratStepsCard : Claim7 := { stood := { row := dratStepsRow, standIns := [], harness := (true, "f88a9725a1ead6463221d9c0cdf8d3d4b2214c69ed6f77c50baabee67ca598a0"), looks := true }, kinds := [], alts := [], laidByText := true, laidKinds := [.data, .data, .data, .sentinel, .sentinel], laidTests := true, laidLooks := .later }
def DratStepsCardSaid : Prop := Claim7.holds Tryd.pinned (.plain (OpenSpec.ofChange dratStepsSpec)) dratStepsCard

/-- THE TIED CARD OF 'depotlaw09.DratBack'. -/
def dratBackCard : Claim7 := { stood := { row := dratBackRow, standIns := [], harness := (true, "f88a9725a1ead6463221d9c0cdf8d3d4b2214c69ed6f77c50baabee67ca598a0"), looks := true }, kinds := [], alts := [], laidByText := true, laidKinds := [.data, .data, .data, .sentinel, .sentinel], laidTests := true, laidLooks := .later }
def DratBackCardSaid : Prop := Claim7.holds Tryd.pinned (.plain (OpenSpec.ofChange dratBackSpec)) dratBackCard

/-- THE TIED CARD OF 'depotlaw09.DratJoins'. -/
def dratJoinsCard : Claim7 := { stood := { row := dratJoinsRow, standIns := [], harness := (true, "f88a9725a1ead6463221d9c0cdf8d3d4b2214c69ed6f77c50baabee67ca598a0"), looks := true }, kinds := [], alts := [], laidByText := true, laidKinds := [.data, .data, .data, .sentinel, .sentinel], laidTests := true, laidLooks := .later }
def DratJoinsCardSaid : Prop := Claim7.holds Tryd.pinned (.plain (OpenSpec.ofChange dratJoinsSpec)) dratJoinsCard

/-- THE TIED CARD OF 'depotlaw09.DratForeign'. -/
def dratForeignCard : Claim7 := { stood := { row := dratForeignRow, standIns := [], harness := (true, "f88a9725a1ead6463221d9c0cdf8d3d4b2214c69ed6f77c50baabee67ca598a0"), looks := true }, kinds := [], alts := [], laidByText := true, laidKinds := [.data, .data, .data, .sentinel, .sentinel], laidTests := true, laidLooks := .later }
def DratForeignCardSaid : Prop := Claim7.holds Tryd.pinned (.plain (OpenSpec.ofChange dratForeignSpec)) dratForeignCard

/-- THE SECOND FORM's CARD OF 'depotlaw09.DratWrites'. -/
def dratWritesUptoCard : Claim7 := { stood := { row := dratWritesUptoRow, standIns := [], harness := (true, "f88a9725a1ead6463221d9c0cdf8d3d4b2214c69ed6f77c50baabee67ca598a0"), looks := true }, kinds := [], alts := [], laidByText := true, laidKinds := [.data, .data, .data], laidTests := true, laidLooks := .later }
def DratWritesUptoCardSaid : Prop := Claim7.holds Tryd.pinned (.plain (OpenSpec.upto dratWritesSpec)) dratWritesUptoCard

/-- THE SECOND FORM's CARD OF 'depotlaw09.DratReads'. -/
def dratReadsUptoCard : Claim7 := { stood := { row := dratReadsUptoRow, standIns := [], harness := (true, "f88a9725a1ead6463221d9c0cdf8d3d4b2214c69ed6f77c50baabee67ca598a0"), looks := true }, kinds := [], alts := [], laidByText := true, laidKinds := [.data, .data, .data, .sentinel, .sentinel], laidTests := true, laidLooks := .later }
def DratReadsUptoCardSaid : Prop := Claim7.holds Tryd.pinned (.plain (OpenSpec.upto dratReadsSpec)) dratReadsUptoCard

/-- THE SECOND FORM's CARD OF 'depotlaw09.DratLoose'. -/
def dratLooseUptoCard : Claim7 := { stood := { row := dratLooseUptoRow, standIns := [], harness := (true, "f88a9725a1ead6463221d9c0cdf8d3d4b2214c69ed6f77c50baabee67ca598a0"), looks := true }, kinds := [], alts := [], laidByText := true, laidKinds := [.data, .data, .data, .sentinel, .sentinel], laidTests := true, laidLooks := .later }
def DratLooseUptoCardSaid : Prop := Claim7.holds Tryd.pinned (.plain (OpenSpec.upto dratLooseSpec)) dratLooseUptoCard

/-- THE SECOND FORM's CARD OF 'depotlaw09.DratNumbers'. -/
def dratNumbersUptoCard : Claim7 := { stood := { row := dratNumbersUptoRow, standIns := [], harness := (true, "f88a9725a1ead6463221d9c0cdf8d3d4b2214c69ed6f77c50baabee67ca598a0"), looks := true }, kinds := [], alts := [], laidByText := true, laidKinds := [.data, .data, .data, .sentinel, .sentinel], laidTests := true, laidLooks := .later }
def DratNumbersUptoCardSaid : Prop := Claim7.holds Tryd.pinned (.plain (OpenSpec.upto dratNumbersSpec)) dratNumbersUptoCard

/-- THE SECOND FORM's CARD OF 'depotlaw09.DratSteps'. -/
def dratStepsUptoCard : Claim7 := { stood := { row := dratStepsUptoRow, standIns := [], harness := (true, "f88a9725a1ead6463221d9c0cdf8d3d4b2214c69ed6f77c50baabee67ca598a0"), looks := true }, kinds := [], alts := [], laidByText := true, laidKinds := [.data, .data, .data, .sentinel, .sentinel], laidTests := true, laidLooks := .later }
def DratStepsUptoCardSaid : Prop := Claim7.holds Tryd.pinned (.plain (OpenSpec.upto dratStepsSpec)) dratStepsUptoCard

/-- THE SECOND FORM's CARD OF 'depotlaw09.DratBack'. -/
def dratBackUptoCard : Claim7 := { stood := { row := dratBackUptoRow, standIns := [], harness := (true, "f88a9725a1ead6463221d9c0cdf8d3d4b2214c69ed6f77c50baabee67ca598a0"), looks := true }, kinds := [], alts := [], laidByText := true, laidKinds := [.data, .data, .data, .sentinel, .sentinel], laidTests := true, laidLooks := .later }
def DratBackUptoCardSaid : Prop := Claim7.holds Tryd.pinned (.plain (OpenSpec.upto dratBackSpec)) dratBackUptoCard

/-- THE SECOND FORM's CARD OF 'depotlaw09.DratJoins'. -/
def dratJoinsUptoCard : Claim7 := { stood := { row := dratJoinsUptoRow, standIns := [], harness := (true, "f88a9725a1ead6463221d9c0cdf8d3d4b2214c69ed6f77c50baabee67ca598a0"), looks := true }, kinds := [], alts := [], laidByText := true, laidKinds := [.data, .data, .data, .sentinel, .sentinel], laidTests := true, laidLooks := .later }
def DratJoinsUptoCardSaid : Prop := Claim7.holds Tryd.pinned (.plain (OpenSpec.upto dratJoinsSpec)) dratJoinsUptoCard

/-- THE SECOND FORM's CARD OF 'depotlaw09.DratForeign'. -/
def dratForeignUptoCard : Claim7 := { stood := { row := dratForeignUptoRow, standIns := [], harness := (true, "f88a9725a1ead6463221d9c0cdf8d3d4b2214c69ed6f77c50baabee67ca598a0"), looks := true }, kinds := [], alts := [], laidByText := true, laidKinds := [.data, .data, .data, .sentinel, .sentinel], laidTests := true, laidLooks := .later }
def DratForeignUptoCardSaid : Prop := Claim7.holds Tryd.pinned (.plain (OpenSpec.upto dratForeignSpec)) dratForeignUptoCard
end Rows
end Go.Proofs.YtooojhlndlebdaaRRRDoorRRRR
