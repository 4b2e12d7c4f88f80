/-
  DERIVED. GIVEN WITH THE SEED: THE CARDS: each row of YthafdckomhdlbaaDoorRows.lean that lists a variable, with what it lists TIED to the program's text (the seventh form; the later family's looks); each row that meets fmt, with fmt's text TOLD by the authors' own Lean function (tested against real Go, not proved from fmt's source: count such statements apart). THE CARD IS WHAT COUNTS. Prove the row's statement (the work); the ties are given (YthafdckomhdlbaaDoorTie.lean); close each card by the builder's one call (the guide's Derived/Test/ToyasCard.lean, 'card_holds'). Laid BY PROGRAM, IN A SANDBOX (cutbox-door.mjs). By AI agents, Wed Nov 11 2026. No macro, syntax, notation, axiom, sorry.
-/
import Derived.Test.YthafdckomhdlbaaDoorRows
import GoSem.ClaimSeven
namespace Go.Proofs.YthafdckomhdlbaaDoor
namespace Rows

/-- THE TIED CARD OF 'novationlaw02.RationalRounds'. -/
def rationalRoundsCard : Claim7 := { stood := { row := rationalRoundsRow, standIns := [], harness := (true, "a18686d7ce9dac20472b8cafde1c95bf318b18ce38aaf4bc5c3d5f2f05446804"), looks := false }, kinds := [], alts := [], laidByText := true, laidKinds := [.funcs], laidTests := true, laidLooks := .later }
def RationalRoundsCardSaid : Prop := Claim7.holds Tryd.pinned (.plain (OpenSpec.ofChange rationalRoundsSpec)) rationalRoundsCard

/-- THE TIED CARD OF 'novationlaw02.RationalField'. -/
def rationalFieldCard : Claim7 := { stood := { row := rationalFieldRow, standIns := [], harness := (true, "a18686d7ce9dac20472b8cafde1c95bf318b18ce38aaf4bc5c3d5f2f05446804"), looks := false }, kinds := [], alts := [], laidByText := true, laidKinds := [.funcs], laidTests := true, laidLooks := .later }
def RationalFieldCardSaid : Prop := Claim7.holds Tryd.pinned (.plain (OpenSpec.ofChange rationalFieldSpec)) rationalFieldCard

/-- THE TIED CARD OF 'novationlaw02.RationalOrdered'. -/
def rationalOrderedCard : Claim7 := { stood := { row := rationalOrderedRow, standIns := [], harness := (true, "a18686d7ce9dac20472b8cafde1c95bf318b18ce38aaf4bc5c3d5f2f05446804"), looks := false }, kinds := [], alts := [], laidByText := true, laidKinds := [.funcs], laidTests := true, laidLooks := .later }
def RationalOrderedCardSaid : Prop := Claim7.holds Tryd.pinned (.plain (OpenSpec.ofChange rationalOrderedSpec)) rationalOrderedCard

/-- THE TIED CARD OF 'novationlaw02.RationalNear'. -/
def rationalNearCard : Claim7 := { stood := { row := rationalNearRow, standIns := [], harness := (true, "a18686d7ce9dac20472b8cafde1c95bf318b18ce38aaf4bc5c3d5f2f05446804"), looks := false }, kinds := [], alts := [], laidByText := true, laidKinds := [.funcs], laidTests := true, laidLooks := .later }
def RationalNearCardSaid : Prop := Claim7.holds Tryd.pinned (.plain (OpenSpec.ofChange rationalNearSpec)) rationalNearCard

/-- THE TIED CARD OF 'novationlaw02.RationalPowers'. -/
def rationalPowersCard : Claim7 := { stood := { row := rationalPowersRow, standIns := [], harness := (true, "a18686d7ce9dac20472b8cafde1c95bf318b18ce38aaf4bc5c3d5f2f05446804"), looks := false }, kinds := [], alts := [], laidByText := true, laidKinds := [.funcs], laidTests := true, laidLooks := .later }
def RationalPowersCardSaid : Prop := Claim7.holds Tryd.pinned (.plain (OpenSpec.ofChange rationalPowersSpec)) rationalPowersCard

/-- THE TIED CARD OF 'novationlaw02.RationalNames'. -/
def rationalNamesCard : Claim7 := { stood := { row := rationalNamesRow, standIns := [], harness := (true, "a18686d7ce9dac20472b8cafde1c95bf318b18ce38aaf4bc5c3d5f2f05446804"), looks := false }, kinds := [], alts := [], laidByText := true, laidKinds := [.funcs], laidTests := true, laidLooks := .later }
def RationalNamesCardSaid : Prop := Claim7.holds Tryd.pinned (.plain (OpenSpec.ofChange rationalNamesSpec)) rationalNamesCard

/-- THE SECOND FORM's CARD OF 'novationlaw02.RationalRounds'. -/
def rationalRoundsUptoCard : Claim7 := { stood := { row := rationalRoundsUptoRow, standIns := [], harness := (true, "a18686d7ce9dac20472b8cafde1c95bf318b18ce38aaf4bc5c3d5f2f05446804"), looks := false }, kinds := [], alts := [], laidByText := true, laidKinds := [.funcs], laidTests := true, laidLooks := .later }
def RationalRoundsUptoCardSaid : Prop := Claim7.holds Tryd.pinned (.plain (OpenSpec.upto rationalRoundsSpec)) rationalRoundsUptoCard

/-- THE SECOND FORM's CARD OF 'novationlaw02.RationalField'. -/
def rationalFieldUptoCard : Claim7 := { stood := { row := rationalFieldUptoRow, standIns := [], harness := (true, "a18686d7ce9dac20472b8cafde1c95bf318b18ce38aaf4bc5c3d5f2f05446804"), looks := false }, kinds := [], alts := [], laidByText := true, laidKinds := [.funcs], laidTests := true, laidLooks := .later }
def RationalFieldUptoCardSaid : Prop := Claim7.holds Tryd.pinned (.plain (OpenSpec.upto rationalFieldSpec)) rationalFieldUptoCard

/-- THE SECOND FORM's CARD OF 'novationlaw02.RationalOrdered'. -/
def rationalOrderedUptoCard : Claim7 := { stood := { row := rationalOrderedUptoRow, standIns := [], harness := (true, "a18686d7ce9dac20472b8cafde1c95bf318b18ce38aaf4bc5c3d5f2f05446804"), looks := false }, kinds := [], alts := [], laidByText := true, laidKinds := [.funcs], laidTests := true, laidLooks := .later }
def RationalOrderedUptoCardSaid : Prop := Claim7.holds Tryd.pinned (.plain (OpenSpec.upto rationalOrderedSpec)) rationalOrderedUptoCard

/-- THE SECOND FORM's CARD OF 'novationlaw02.RationalNear'. -/
def rationalNearUptoCard : Claim7 := { stood := { row := rationalNearUptoRow, standIns := [], harness := (true, "a18686d7ce9dac20472b8cafde1c95bf318b18ce38aaf4bc5c3d5f2f05446804"), looks := false }, kinds := [], alts := [], laidByText := true, laidKinds := [.funcs], laidTests := true, laidLooks := .later }
def RationalNearUptoCardSaid : Prop := Claim7.holds Tryd.pinned (.plain (OpenSpec.upto rationalNearSpec)) rationalNearUptoCard

/-- THE SECOND FORM's CARD OF 'novationlaw02.RationalPowers'. -/
def rationalPowersUptoCard : Claim7 := { stood := { row := rationalPowersUptoRow, standIns := [], harness := (true, "a18686d7ce9dac20472b8cafde1c95bf318b18ce38aaf4bc5c3d5f2f05446804"), looks := false }, kinds := [], alts := [], laidByText := true, laidKinds := [.funcs], laidTests := true, laidLooks := .later }
def RationalPowersUptoCardSaid : Prop := Claim7.holds Tryd.pinned (.plain (OpenSpec.upto rationalPowersSpec)) rationalPowersUptoCard

/-- THE SECOND FORM's CARD OF 'novationlaw02.RationalNames'. -/
def rationalNamesUptoCard : Claim7 := { stood := { row := rationalNamesUptoRow, standIns := [], harness := (true, "a18686d7ce9dac20472b8cafde1c95bf318b18ce38aaf4bc5c3d5f2f05446804"), looks := false }, kinds := [], alts := [], laidByText := true, laidKinds := [.funcs], laidTests := true, laidLooks := .later }
def RationalNamesUptoCardSaid : Prop := Claim7.holds Tryd.pinned (.plain (OpenSpec.upto rationalNamesSpec)) rationalNamesUptoCard
end Rows
end Go.Proofs.YthafdckomhdlbaaDoor
