/-
  DERIVED. GIVEN WITH THE SEED: THE CARDS: each row of YtbaiglikmneicaaDoorRows.lean that lists a variable, with what it lists TIED to the program's text (the seventh form; the later family's looks); each row that meets fmt, with fmt's text TOLD by the authors' own Lean function (tested against real Go, not proved from fmt's source: count such statements apart). THE CARD IS WHAT COUNTS. Prove the row's statement (the work); the ties are given (YtbaiglikmneicaaDoorTie.lean); close each card by the builder's one call (the guide's Derived/Test/ToyasCard.lean, 'card_holds'). Laid BY PROGRAM, IN A SANDBOX (cutbox-door.mjs). By AI agents, Wed Nov 11 2026. No macro, syntax, notation, axiom, sorry.
-/
import Derived.Test.YtbaiglikmneicaaDoorRows
import GoSem.ClaimSeven
namespace Go.Proofs.YtbaiglikmneicaaDoor
namespace Rows

/-- THE TIED CARD OF 'depotlaw21.ControlNumbers'. -/
def controlNumbersCard : Claim7 := { stood := { row := controlNumbersRow, standIns := [], harness := (true, "972960433804b721500a51de43abf79e81d329557dd5928d7dbac87f2534ff6c"), looks := false }, kinds := [], alts := [], laidByText := true, laidKinds := [.data, .pinned], laidTests := true, laidLooks := .later }
def ControlNumbersCardSaid : Prop := Claim7.holds Tryd.pinned (.plain (OpenSpec.ofChange controlNumbersSpec)) controlNumbersCard

/-- THE TIED CARD OF 'depotlaw21.ControlReads'. -/
def controlReadsCard : Claim7 := { stood := { row := controlReadsRow, standIns := [], harness := (true, "972960433804b721500a51de43abf79e81d329557dd5928d7dbac87f2534ff6c"), looks := false }, kinds := [], alts := [], laidByText := true, laidKinds := [.data, .pinned], laidTests := true, laidLooks := .later }
def ControlReadsCardSaid : Prop := Claim7.holds Tryd.pinned (.plain (OpenSpec.ofChange controlReadsSpec)) controlReadsCard

/-- THE TIED CARD OF 'depotlaw21.ControlShapes'. -/
def controlShapesCard : Claim7 := { stood := { row := controlShapesRow, standIns := [], harness := (true, "972960433804b721500a51de43abf79e81d329557dd5928d7dbac87f2534ff6c"), looks := false }, kinds := [], alts := [], laidByText := true, laidKinds := [.data, .pinned], laidTests := true, laidLooks := .later }
def ControlShapesCardSaid : Prop := Claim7.holds Tryd.pinned (.plain (OpenSpec.ofChange controlShapesSpec)) controlShapesCard

/-- THE TIED CARD OF 'depotlaw21.ControlWrites'. -/
def controlWritesCard : Claim7 := { stood := { row := controlWritesRow, standIns := [], harness := (true, "972960433804b721500a51de43abf79e81d329557dd5928d7dbac87f2534ff6c"), looks := false }, kinds := [], alts := [], laidByText := true, laidKinds := [.data, .pinned], laidTests := true, laidLooks := .later }
def ControlWritesCardSaid : Prop := Claim7.holds Tryd.pinned (.plain (OpenSpec.ofChange controlWritesSpec)) controlWritesCard

/-- THE TIED CARD OF 'depotlaw21.ControlKeeps'. -/
def controlKeepsCard : Claim7 := { stood := { row := controlKeepsRow, standIns := [], harness := (true, "972960433804b721500a51de43abf79e81d329557dd5928d7dbac87f2534ff6c"), looks := false }, kinds := [], alts := [], laidByText := true, laidKinds := [.data, .pinned], laidTests := true, laidLooks := .later }
def ControlKeepsCardSaid : Prop := Claim7.holds Tryd.pinned (.plain (OpenSpec.ofChange controlKeepsSpec)) controlKeepsCard

/-- THE TIED CARD OF 'depotlaw21.ControlBack'. -/
def controlBackCard : Claim7 := { stood := { row := controlBackRow, standIns := [], harness := (true, "972960433804b721500a51de43abf79e81d329557dd5928d7dbac87f2534ff6c"), looks := false }, kinds := [], alts := [], laidByText := true, laidKinds := [.data, .pinned], laidTests := true, laidLooks := .later }
def ControlBackCardSaid : Prop := Claim7.holds Tryd.pinned (.plain (OpenSpec.ofChange controlBackSpec)) controlBackCard

/-- THE TIED CARD OF 'depotlaw21.ControlAgain'. -/
def controlAgainCard : Claim7 := { stood := { row := controlAgainRow, standIns := [], harness := (true, "972960433804b721500a51de43abf79e81d329557dd5928d7dbac87f2534ff6c"), looks := false }, kinds := [], alts := [], laidByText := true, laidKinds := [.data, .pinned], laidTests := true, laidLooks := .later }
def ControlAgainCardSaid : Prop := Claim7.holds Tryd.pinned (.plain (OpenSpec.ofChange controlAgainSpec)) controlAgainCard

/-- THE TIED CARD OF 'depotlaw21.ControlIdle'. -/
def controlIdleCard : Claim7 := { stood := { row := controlIdleRow, standIns := [], harness := (true, "972960433804b721500a51de43abf79e81d329557dd5928d7dbac87f2534ff6c"), looks := false }, kinds := [], alts := [], laidByText := true, laidKinds := [.data, .pinned], laidTests := true, laidLooks := .later }
def ControlIdleCardSaid : Prop := Claim7.holds Tryd.pinned (.plain (OpenSpec.ofChange controlIdleSpec)) controlIdleCard

/-- THE SECOND FORM's CARD OF 'depotlaw21.ControlNumbers'. -/
def controlNumbersUptoCard : Claim7 := { stood := { row := controlNumbersUptoRow, standIns := [], harness := (true, "972960433804b721500a51de43abf79e81d329557dd5928d7dbac87f2534ff6c"), looks := false }, kinds := [], alts := [], laidByText := true, laidKinds := [.data, .pinned], laidTests := true, laidLooks := .later }
def ControlNumbersUptoCardSaid : Prop := Claim7.holds Tryd.pinned (.plain (OpenSpec.upto controlNumbersSpec)) controlNumbersUptoCard

/-- THE SECOND FORM's CARD OF 'depotlaw21.ControlReads'. -/
def controlReadsUptoCard : Claim7 := { stood := { row := controlReadsUptoRow, standIns := [], harness := (true, "972960433804b721500a51de43abf79e81d329557dd5928d7dbac87f2534ff6c"), looks := false }, kinds := [], alts := [], laidByText := true, laidKinds := [.data, .pinned], laidTests := true, laidLooks := .later }
def ControlReadsUptoCardSaid : Prop := Claim7.holds Tryd.pinned (.plain (OpenSpec.upto controlReadsSpec)) controlReadsUptoCard

/-- THE SECOND FORM's CARD OF 'depotlaw21.ControlShapes'. -/
def controlShapesUptoCard : Claim7 := { stood := { row := controlShapesUptoRow, standIns := [], harness := (true, "972960433804b721500a51de43abf79e81d329557dd5928d7dbac87f2534ff6c"), looks := false }, kinds := [], alts := [], laidByText := true, laidKinds := [.data, .pinned], laidTests := true, laidLooks := .later }
def ControlShapesUptoCardSaid : Prop := Claim7.holds Tryd.pinned (.plain (OpenSpec.upto controlShapesSpec)) controlShapesUptoCard

/-- THE SECOND FORM's CARD OF 'depotlaw21.ControlWrites'. -/
def controlWritesUptoCard : Claim7 := { stood := { row := controlWritesUptoRow, standIns := [], harness := (true, "972960433804b721500a51de43abf79e81d329557dd5928d7dbac87f2534ff6c"), looks := false }, kinds := [], alts := [], laidByText := true, laidKinds := [.data, .pinned], laidTests := true, laidLooks := .later }
def ControlWritesUptoCardSaid : Prop := Claim7.holds Tryd.pinned (.plain (OpenSpec.upto controlWritesSpec)) controlWritesUptoCard

/-- THE SECOND FORM's CARD OF 'depotlaw21.ControlKeeps'. -/
def controlKeepsUptoCard : Claim7 := { stood := { row := controlKeepsUptoRow, standIns := [], harness := (true, "972960433804b721500a51de43abf79e81d329557dd5928d7dbac87f2534ff6c"), looks := false }, kinds := [], alts := [], laidByText := true, laidKinds := [.data, .pinned], laidTests := true, laidLooks := .later }
def ControlKeepsUptoCardSaid : Prop := Claim7.holds Tryd.pinned (.plain (OpenSpec.upto controlKeepsSpec)) controlKeepsUptoCard

/-- THE SECOND FORM's CARD OF 'depotlaw21.ControlBack'. -/
def controlBackUptoCard : Claim7 := { stood := { row := controlBackUptoRow, standIns := [], harness := (true, "972960433804b721500a51de43abf79e81d329557dd5928d7dbac87f2534ff6c"), looks := false }, kinds := [], alts := [], laidByText := true, laidKinds := [.data, .pinned], laidTests := true, laidLooks := .later }
def ControlBackUptoCardSaid : Prop := Claim7.holds Tryd.pinned (.plain (OpenSpec.upto controlBackSpec)) controlBackUptoCard

/-- THE SECOND FORM's CARD OF 'depotlaw21.ControlAgain'. -/
def controlAgainUptoCard : Claim7 := { stood := { row := controlAgainUptoRow, standIns := [], harness := (true, "972960433804b721500a51de43abf79e81d329557dd5928d7dbac87f2534ff6c"), looks := false }, kinds := [], alts := [], laidByText := true, laidKinds := [.data, .pinned], laidTests := true, laidLooks := .later }
def ControlAgainUptoCardSaid : Prop := Claim7.holds Tryd.pinned (.plain (OpenSpec.upto controlAgainSpec)) controlAgainUptoCard

/-- THE SECOND FORM's CARD OF 'depotlaw21.ControlIdle'. -/
def controlIdleUptoCard : Claim7 := { stood := { row := controlIdleUptoRow, standIns := [], harness := (true, "972960433804b721500a51de43abf79e81d329557dd5928d7dbac87f2534ff6c"), looks := false }, kinds := [], alts := [], laidByText := true, laidKinds := [.data, .pinned], laidTests := true, laidLooks := .later }
def ControlIdleUptoCardSaid : Prop := Claim7.holds Tryd.pinned (.plain (OpenSpec.upto controlIdleSpec)) controlIdleUptoCard
end Rows
end Go.Proofs.YtbaiglikmneicaaDoor
