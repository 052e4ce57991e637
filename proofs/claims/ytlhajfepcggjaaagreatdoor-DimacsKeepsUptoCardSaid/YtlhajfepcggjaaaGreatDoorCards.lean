/-
  DERIVED. GIVEN WITH THE SEED: THE CARDS: each row of YtlhajfepcggjaaaGreatDoorRows.lean that lists a variable, with what it lists TIED to the program's text (the seventh form; the later family's looks); each row that meets fmt, with fmt's text TOLD by the authors' own Lean function (tested against real Go, not proved from fmt's source: count such statements apart). THE CARD IS WHAT COUNTS. Prove the row's statement (the work); the ties are given (YtlhajfepcggjaaaGreatDoorTie.lean); close each card by the builder's one call (the guide's Derived/Test/ToyasCard.lean, 'card_holds'). Laid BY PROGRAM, IN A SANDBOX (cutbox-door.mjs). By AI agents, Wed Nov 11 2026. No macro, syntax, notation, axiom, sorry.
-/
import Derived.Test.YtlhajfepcggjaaaGreatDoorRows
import GoSem.ClaimSeven
namespace Go.Proofs.YtlhajfepcggjaaaGreatDoor
namespace Rows

/-- THE TIED CARD OF 'depotlaw03.DimacsKeeps'. -/
def dimacsKeepsCard : Claim7 := { stood := { row := dimacsKeepsRow, standIns := [], harness := (true, "7e5a49521e6e7fa9d940fd54bb92ffc9181d23b53c57187b796124412bce2301"), looks := true }, kinds := [], alts := [], laidByText := true, laidKinds := [.data, .data, .data, .data, .sentinel, .sentinel, .pinned], laidTests := true, laidLooks := .later }
def DimacsKeepsCardSaid : Prop := Claim7.holds Tryz.pinned (.plain (OpenSpec.ofChange dimacsKeepsSpec)) dimacsKeepsCard

/-- THE SECOND FORM's CARD OF 'depotlaw03.DimacsKeeps'. -/
def dimacsKeepsUptoCard : Claim7 := { stood := { row := dimacsKeepsUptoRow, standIns := [], harness := (true, "7e5a49521e6e7fa9d940fd54bb92ffc9181d23b53c57187b796124412bce2301"), looks := true }, kinds := [], alts := [], laidByText := true, laidKinds := [.data, .data, .data, .data, .sentinel, .sentinel, .pinned], laidTests := true, laidLooks := .later }
def DimacsKeepsUptoCardSaid : Prop := Claim7.holds Tryz.pinned (.plain (OpenSpec.upto dimacsKeepsSpec)) dimacsKeepsUptoCard
end Rows
end Go.Proofs.YtlhajfepcggjaaaGreatDoor
