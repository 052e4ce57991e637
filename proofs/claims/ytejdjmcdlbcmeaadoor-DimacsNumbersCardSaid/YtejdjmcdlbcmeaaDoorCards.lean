/-
  DERIVED. GIVEN WITH THE SEED: THE CARDS: each row of YtejdjmcdlbcmeaaDoorRows.lean that lists a variable, with what it lists TIED to the program's text (the seventh form; the later family's looks); each row that meets fmt, with fmt's text TOLD by the authors' own Lean function (tested against real Go, not proved from fmt's source: count such statements apart). THE CARD IS WHAT COUNTS. Prove the row's statement (the work); the ties are given (YtejdjmcdlbcmeaaDoorTie.lean); close each card by the builder's one call (the guide's Derived/Test/ToyasCard.lean, 'card_holds'). Laid BY PROGRAM, IN A SANDBOX (cutbox-door.mjs). By AI agents, Wed Nov 11 2026. No macro, syntax, notation, axiom, sorry.
-/
import Derived.Test.YtejdjmcdlbcmeaaDoorRows
import GoSem.ClaimSeven
namespace Go.Proofs.YtejdjmcdlbcmeaaDoor
namespace Rows

/-- THE TIED CARD OF 'depotlaw03.DimacsSays'. -/
def dimacsSaysCard : Claim7 := { stood := { row := dimacsSaysRow, standIns := [], harness := (true, "ff4335e9346adf48439ff7fc571bde6b28d5d1d7c74230a7929ebc1973734888"), looks := true }, kinds := [], alts := [], laidByText := true, laidKinds := [.data, .data, .data], laidTests := true, laidLooks := .later }
def DimacsSaysCardSaid : Prop := Claim7.holds Tryd.pinned (.plain (OpenSpec.ofChange dimacsSaysSpec)) dimacsSaysCard

/-- THE TIED CARD OF 'depotlaw03.DimacsWrites'. -/
def dimacsWritesCard : Claim7 := { stood := { row := dimacsWritesRow, standIns := [], harness := (true, "ff4335e9346adf48439ff7fc571bde6b28d5d1d7c74230a7929ebc1973734888"), looks := true }, kinds := [], alts := [], laidByText := true, laidKinds := [.data, .data, .data], laidTests := true, laidLooks := .later }
def DimacsWritesCardSaid : Prop := Claim7.holds Tryd.pinned (.plain (OpenSpec.ofChange dimacsWritesSpec)) dimacsWritesCard

/-- THE TIED CARD OF 'depotlaw03.DimacsNumbers'. -/
def dimacsNumbersCard : Claim7 := { stood := { row := dimacsNumbersRow, standIns := [], harness := (true, "ff4335e9346adf48439ff7fc571bde6b28d5d1d7c74230a7929ebc1973734888"), looks := true }, kinds := [], alts := [], laidByText := true, laidKinds := [.data, .pinned], laidTests := true, laidLooks := .later }
def DimacsNumbersCardSaid : Prop := Claim7.holds Tryd.pinned (.plain (OpenSpec.ofChange dimacsNumbersSpec)) dimacsNumbersCard

/-- THE TIED CARD OF 'depotlaw03.DimacsLoose'. -/
def dimacsLooseCard : Claim7 := { stood := { row := dimacsLooseRow, standIns := [], harness := (true, "ff4335e9346adf48439ff7fc571bde6b28d5d1d7c74230a7929ebc1973734888"), looks := true }, kinds := [], alts := [], laidByText := true, laidKinds := [.data, .data, .data, .data, .pinned], laidTests := true, laidLooks := .later }
def DimacsLooseCardSaid : Prop := Claim7.holds Tryd.pinned (.plain (OpenSpec.ofChange dimacsLooseSpec)) dimacsLooseCard

/-- THE TIED CARD OF 'depotlaw03.DimacsLong'. -/
def dimacsLongCard : Claim7 := { stood := { row := dimacsLongRow, standIns := [], harness := (true, "ff4335e9346adf48439ff7fc571bde6b28d5d1d7c74230a7929ebc1973734888"), looks := true }, kinds := [], alts := [], laidByText := true, laidKinds := [.data, .data, .data, .data, .pinned], laidTests := true, laidLooks := .later }
def DimacsLongCardSaid : Prop := Claim7.holds Tryd.pinned (.plain (OpenSpec.ofChange dimacsLongSpec)) dimacsLongCard

/-- THE TIED CARD OF 'depotlaw03.DimacsBack'. -/
def dimacsBackCard : Claim7 := { stood := { row := dimacsBackRow, standIns := [], harness := (true, "ff4335e9346adf48439ff7fc571bde6b28d5d1d7c74230a7929ebc1973734888"), looks := true }, kinds := [], alts := [], laidByText := true, laidKinds := [.data, .data, .data, .data, .pinned], laidTests := true, laidLooks := .later }
def DimacsBackCardSaid : Prop := Claim7.holds Tryd.pinned (.plain (OpenSpec.ofChange dimacsBackSpec)) dimacsBackCard

/-- THE TIED CARD OF 'depotlaw03.DimacsForeign'. -/
def dimacsForeignCard : Claim7 := { stood := { row := dimacsForeignRow, standIns := [], harness := (true, "ff4335e9346adf48439ff7fc571bde6b28d5d1d7c74230a7929ebc1973734888"), looks := true }, kinds := [], alts := [], laidByText := true, laidKinds := [.data, .data, .data, .data, .pinned], laidTests := true, laidLooks := .later }
def DimacsForeignCardSaid : Prop := Claim7.holds Tryd.pinned (.plain (OpenSpec.ofChange dimacsForeignSpec)) dimacsForeignCard

/-- THE TIED CARD OF 'depotlaw03.DimacsTells'. -/
def dimacsTellsCard : Claim7 := { stood := { row := dimacsTellsRow, standIns := [], harness := (true, "ff4335e9346adf48439ff7fc571bde6b28d5d1d7c74230a7929ebc1973734888"), looks := true }, kinds := [], alts := [], laidByText := true, laidKinds := [.data, .data, .data, .data, .sentinel, .sentinel, .pinned], laidTests := true, laidLooks := .later }
def DimacsTellsCardSaid : Prop := Claim7.holds Tryd.pinned (.plain (OpenSpec.ofChange dimacsTellsSpec)) dimacsTellsCard

/-- THE TIED CARD OF 'depotlaw03.DimacsReads'. -/
def dimacsReadsCard : Claim7 := { stood := { row := dimacsReadsRow, standIns := [], harness := (true, "ff4335e9346adf48439ff7fc571bde6b28d5d1d7c74230a7929ebc1973734888"), looks := true }, kinds := [], alts := [], laidByText := true, laidKinds := [.data, .data, .data, .data, .sentinel, .sentinel, .pinned], laidTests := true, laidLooks := .later }
def DimacsReadsCardSaid : Prop := Claim7.holds Tryd.pinned (.plain (OpenSpec.ofChange dimacsReadsSpec)) dimacsReadsCard

/-- THE SECOND FORM's CARD OF 'depotlaw03.DimacsSays'. -/
def dimacsSaysUptoCard : Claim7 := { stood := { row := dimacsSaysUptoRow, standIns := [], harness := (true, "ff4335e9346adf48439ff7fc571bde6b28d5d1d7c74230a7929ebc1973734888"), looks := true }, kinds := [], alts := [], laidByText := true, laidKinds := [.data, .data, .data], laidTests := true, laidLooks := .later }
def DimacsSaysUptoCardSaid : Prop := Claim7.holds Tryd.pinned (.plain (OpenSpec.upto dimacsSaysSpec)) dimacsSaysUptoCard

/-- THE SECOND FORM's CARD OF 'depotlaw03.DimacsWrites'. -/
def dimacsWritesUptoCard : Claim7 := { stood := { row := dimacsWritesUptoRow, standIns := [], harness := (true, "ff4335e9346adf48439ff7fc571bde6b28d5d1d7c74230a7929ebc1973734888"), looks := true }, kinds := [], alts := [], laidByText := true, laidKinds := [.data, .data, .data], laidTests := true, laidLooks := .later }
def DimacsWritesUptoCardSaid : Prop := Claim7.holds Tryd.pinned (.plain (OpenSpec.upto dimacsWritesSpec)) dimacsWritesUptoCard

/-- THE SECOND FORM's CARD OF 'depotlaw03.DimacsNumbers'. -/
def dimacsNumbersUptoCard : Claim7 := { stood := { row := dimacsNumbersUptoRow, standIns := [], harness := (true, "ff4335e9346adf48439ff7fc571bde6b28d5d1d7c74230a7929ebc1973734888"), looks := true }, kinds := [], alts := [], laidByText := true, laidKinds := [.data, .pinned], laidTests := true, laidLooks := .later }
def DimacsNumbersUptoCardSaid : Prop := Claim7.holds Tryd.pinned (.plain (OpenSpec.upto dimacsNumbersSpec)) dimacsNumbersUptoCard

/-- THE SECOND FORM's CARD OF 'depotlaw03.DimacsLoose'. -/
def dimacsLooseUptoCard : Claim7 := { stood := { row := dimacsLooseUptoRow, standIns := [], harness := (true, "ff4335e9346adf48439ff7fc571bde6b28d5d1d7c74230a7929ebc1973734888"), looks := true }, kinds := [], alts := [], laidByText := true, laidKinds := [.data, .data, .data, .data, .pinned], laidTests := true, laidLooks := .later }
def DimacsLooseUptoCardSaid : Prop := Claim7.holds Tryd.pinned (.plain (OpenSpec.upto dimacsLooseSpec)) dimacsLooseUptoCard

/-- THE SECOND FORM's CARD OF 'depotlaw03.DimacsLong'. -/
def dimacsLongUptoCard : Claim7 := { stood := { row := dimacsLongUptoRow, standIns := [], harness := (true, "ff4335e9346adf48439ff7fc571bde6b28d5d1d7c74230a7929ebc1973734888"), looks := true }, kinds := [], alts := [], laidByText := true, laidKinds := [.data, .data, .data, .data, .pinned], laidTests := true, laidLooks := .later }
def DimacsLongUptoCardSaid : Prop := Claim7.holds Tryd.pinned (.plain (OpenSpec.upto dimacsLongSpec)) dimacsLongUptoCard

/-- THE SECOND FORM's CARD OF 'depotlaw03.DimacsBack'. -/
def dimacsBackUptoCard : Claim7 := { stood := { row := dimacsBackUptoRow, standIns := [], harness := (true, "ff4335e9346adf48439ff7fc571bde6b28d5d1d7c74230a7929ebc1973734888"), looks := true }, kinds := [], alts := [], laidByText := true, laidKinds := [.data, .data, .data, .data, .pinned], laidTests := true, laidLooks := .later }
def DimacsBackUptoCardSaid : Prop := Claim7.holds Tryd.pinned (.plain (OpenSpec.upto dimacsBackSpec)) dimacsBackUptoCard

/-- THE SECOND FORM's CARD OF 'depotlaw03.DimacsForeign'. -/
def dimacsForeignUptoCard : Claim7 := { stood := { row := dimacsForeignUptoRow, standIns := [], harness := (true, "ff4335e9346adf48439ff7fc571bde6b28d5d1d7c74230a7929ebc1973734888"), looks := true }, kinds := [], alts := [], laidByText := true, laidKinds := [.data, .data, .data, .data, .pinned], laidTests := true, laidLooks := .later }
def DimacsForeignUptoCardSaid : Prop := Claim7.holds Tryd.pinned (.plain (OpenSpec.upto dimacsForeignSpec)) dimacsForeignUptoCard

/-- THE SECOND FORM's CARD OF 'depotlaw03.DimacsTells'. -/
def dimacsTellsUptoCard : Claim7 := { stood := { row := dimacsTellsUptoRow, standIns := [], harness := (true, "ff4335e9346adf48439ff7fc571bde6b28d5d1d7c74230a7929ebc1973734888"), looks := true }, kinds := [], alts := [], laidByText := true, laidKinds := [.data, .data, .data, .data, .sentinel, .sentinel, .pinned], laidTests := true, laidLooks := .later }
def DimacsTellsUptoCardSaid : Prop := Claim7.holds Tryd.pinned (.plain (OpenSpec.upto dimacsTellsSpec)) dimacsTellsUptoCard

/-- THE SECOND FORM's CARD OF 'depotlaw03.DimacsReads'. -/
def dimacsReadsUptoCard : Claim7 := { stood := { row := dimacsReadsUptoRow, standIns := [], harness := (true, "ff4335e9346adf48439ff7fc571bde6b28d5d1d7c74230a7929ebc1973734888"), looks := true }, kinds := [], alts := [], laidByText := true, laidKinds := [.data, .data, .data, .data, .sentinel, .sentinel, .pinned], laidTests := true, laidLooks := .later }
def DimacsReadsUptoCardSaid : Prop := Claim7.holds Tryd.pinned (.plain (OpenSpec.upto dimacsReadsSpec)) dimacsReadsUptoCard
end Rows
end Go.Proofs.YtejdjmcdlbcmeaaDoor
