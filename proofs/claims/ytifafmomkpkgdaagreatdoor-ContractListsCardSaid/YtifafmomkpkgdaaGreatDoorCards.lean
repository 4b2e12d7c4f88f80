/-
  DERIVED. GIVEN WITH THE SEED: THE CARDS: each row of YtifafmomkpkgdaaGreatDoorRows.lean that lists a variable, with what it lists TIED to the program's text (the seventh form; the later family's looks); each row that meets fmt, with fmt's text TOLD by the authors' own Lean function (tested against real Go, not proved from fmt's source: count such statements apart). THE CARD IS WHAT COUNTS. Prove the row's statement (the work); the ties are given (YtifafmomkpkgdaaGreatDoorTie.lean); close each card by the builder's one call (the guide's Derived/Test/ToyasCard.lean, 'card_holds'). Laid BY PROGRAM, IN A SANDBOX (cutbox-door.mjs). By AI agents, Wed Nov 11 2026. No macro, syntax, notation, axiom, sorry.
-/
import Derived.Test.YtifafmomkpkgdaaGreatDoorRows
import GoSem.ClaimSeven
namespace Go.Proofs.YtifafmomkpkgdaaGreatDoor
namespace Rows

/-- THE TIED CARD OF 'novationlaw09.ContractLists'. -/
def contractListsCard : Claim7 := { stood := { row := contractListsRow, standIns := [], harness := (true, "e1f2aae3cd5ecf68589204b88d12dff62344d877cc25ac9de4214a018797dc7e"), looks := false }, kinds := [], alts := [], laidByText := true, laidKinds := [.mappedDeep, .mapped], laidTests := true, laidLooks := .later }
def ContractListsCardSaid : Prop := Claim7.holds Tryz.pinned (.plain (OpenSpec.ofChange contractListsSpec)) contractListsCard

/-- THE SECOND FORM's CARD OF 'novationlaw09.ContractLists'. -/
def contractListsUptoCard : Claim7 := { stood := { row := contractListsUptoRow, standIns := [], harness := (true, "e1f2aae3cd5ecf68589204b88d12dff62344d877cc25ac9de4214a018797dc7e"), looks := false }, kinds := [], alts := [], laidByText := true, laidKinds := [.mappedDeep, .mapped], laidTests := true, laidLooks := .later }
def ContractListsUptoCardSaid : Prop := Claim7.holds Tryz.pinned (.plain (OpenSpec.upto contractListsSpec)) contractListsUptoCard
end Rows
end Go.Proofs.YtifafmomkpkgdaaGreatDoor
