/-
  DERIVED. GIVEN WITH THE SEED: THE CARDS: each row of YtnaafhkenbnliaaDoorRows.lean that lists a variable, with what it lists TIED to the program's text (the seventh form; the later family's looks); each row that meets fmt, with fmt's text TOLD by the authors' own Lean function (tested against real Go, not proved from fmt's source: count such statements apart). THE CARD IS WHAT COUNTS. Prove the row's statement (the work); the ties are given (YtnaafhkenbnliaaDoorTie.lean); close each card by the builder's one call (the guide's Derived/Test/ToyasCard.lean, 'card_holds'). Laid BY PROGRAM, IN A SANDBOX (cutbox-door.mjs). By AI agents, Wed Nov 11 2026. No macro, syntax, notation, axiom, sorry.
-/
import Derived.Test.YtnaafhkenbnliaaDoorRows
import GoSem.ClaimSeven
namespace Go.Proofs.YtnaafhkenbnliaaDoor
namespace Rows

/-- THE TIED CARD OF 'depotlaw09.DratKeeps'. -/
def dratKeepsCard : Claim7 := { stood := { row := dratKeepsRow, standIns := [], harness := (true, "18a91766b09ff893b9d72ea8d39364b60b3006db030e8454de384ae0b930bd80"), looks := true }, kinds := [], alts := [], laidByText := true, laidKinds := [.data, .data, .data, .sentinel, .sentinel], laidTests := true, laidLooks := .later }
def DratKeepsCardSaid : Prop := Claim7.holds Tryd.pinned (.plain (OpenSpec.ofChange dratKeepsSpec)) dratKeepsCard

/-- THE SECOND FORM's CARD OF 'depotlaw09.DratKeeps'. -/
def dratKeepsUptoCard : Claim7 := { stood := { row := dratKeepsUptoRow, standIns := [], harness := (true, "18a91766b09ff893b9d72ea8d39364b60b3006db030e8454de384ae0b930bd80"), looks := true }, kinds := [], alts := [], laidByText := true, laidKinds := [.data, .data, .data, .sentinel, .sentinel], laidTests := true, laidLooks := .later }
def DratKeepsUptoCardSaid : Prop := Claim7.holds Tryd.pinned (.plain (OpenSpec.upto dratKeepsSpec)) dratKeepsUptoCard
end Rows
end Go.Proofs.YtnaafhkenbnliaaDoor
