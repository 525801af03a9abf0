/-
  DERIVED. GIVEN WITH THE SEED: THE CARDS: each row of YtinfkoinpnnnnaaDoorRows.lean that lists a variable, with what it lists TIED to the program's text (the seventh form; the later family's looks); each row that meets fmt, with fmt's text TOLD by the authors' own Lean function (tested against real Go, not proved from fmt's source: count such statements apart). THE CARD IS WHAT COUNTS. Prove the row's statement (the work); the ties are given (YtinfkoinpnnnnaaDoorTie.lean); close each card by the builder's one call (the guide's Derived/Test/ToyasCard.lean, 'card_holds'). Laid BY PROGRAM, IN A SANDBOX (cutbox-door.mjs). By AI agents, Wed Nov 11 2026. No macro, syntax, notation, axiom, sorry.
-/
import Derived.Test.YtinfkoinpnnnnaaDoorRows
import GoSem.ClaimSeven
namespace Go.Proofs.YtinfkoinpnnnnaaDoor
namespace Rows

/-- THE TIED CARD OF 'bitloftlaw04.SquashMakes'. -/
def squashMakesCard : Claim7 := { stood := { row := squashMakesRow, standIns := [], harness := (true, "f240b6607dd0ab9cbb87ba3786346095764d2cbaff837af6b2dbc6b5df8d188c"), looks := false }, kinds := [], alts := [], laidByText := true, laidKinds := [.data], laidTests := true, laidLooks := .later }
def SquashMakesCardSaid : Prop := Claim7.holds Tryd.pinned (.plain (OpenSpec.ofChange squashMakesSpec)) squashMakesCard

/-- THE TIED CARD OF 'bitloftlaw04.SquashStretches'. -/
def squashStretchesCard : Claim7 := { stood := { row := squashStretchesRow, standIns := [], harness := (true, "f240b6607dd0ab9cbb87ba3786346095764d2cbaff837af6b2dbc6b5df8d188c"), looks := false }, kinds := [], alts := [], laidByText := true, laidKinds := [.data], laidTests := true, laidLooks := .later }
def SquashStretchesCardSaid : Prop := Claim7.holds Tryd.pinned (.plain (OpenSpec.ofChange squashStretchesSpec)) squashStretchesCard

/-- THE TIED CARD OF 'bitloftlaw04.SquashRises'. -/
def squashRisesCard : Claim7 := { stood := { row := squashRisesRow, standIns := [], harness := (true, "f240b6607dd0ab9cbb87ba3786346095764d2cbaff837af6b2dbc6b5df8d188c"), looks := false }, kinds := [], alts := [], laidByText := true, laidKinds := [.data], laidTests := true, laidLooks := .later }
def SquashRisesCardSaid : Prop := Claim7.holds Tryd.pinned (.plain (OpenSpec.ofChange squashRisesSpec)) squashRisesCard

/-- THE TIED CARD OF 'bitloftlaw04.SquashBack'. -/
def squashBackCard : Claim7 := { stood := { row := squashBackRow, standIns := [], harness := (true, "f240b6607dd0ab9cbb87ba3786346095764d2cbaff837af6b2dbc6b5df8d188c"), looks := false }, kinds := [], alts := [], laidByText := true, laidKinds := [.data], laidTests := true, laidLooks := .later }
def SquashBackCardSaid : Prop := Claim7.holds Tryd.pinned (.plain (OpenSpec.ofChange squashBackSpec)) squashBackCard

/-- THE TIED CARD OF 'bitloftlaw04.SquashTurns'. -/
def squashTurnsCard : Claim7 := { stood := { row := squashTurnsRow, standIns := [], harness := (true, "f240b6607dd0ab9cbb87ba3786346095764d2cbaff837af6b2dbc6b5df8d188c"), looks := false }, kinds := [], alts := [], laidByText := true, laidKinds := [.data], laidTests := true, laidLooks := .later }
def SquashTurnsCardSaid : Prop := Claim7.holds Tryd.pinned (.plain (OpenSpec.ofChange squashTurnsSpec)) squashTurnsCard

/-- THE TIED CARD OF 'bitloftlaw04.SquashNames'. -/
def squashNamesCard : Claim7 := { stood := { row := squashNamesRow, standIns := [], harness := (true, "f240b6607dd0ab9cbb87ba3786346095764d2cbaff837af6b2dbc6b5df8d188c"), looks := false }, kinds := [], alts := [], laidByText := true, laidKinds := [.data], laidTests := true, laidLooks := .later }
def SquashNamesCardSaid : Prop := Claim7.holds Tryd.pinned (.plain (OpenSpec.ofChange squashNamesSpec)) squashNamesCard

/-- THE TIED CARD OF 'bitloftlaw04.SquashPlaces'. -/
def squashPlacesCard : Claim7 := { stood := { row := squashPlacesRow, standIns := [], harness := (true, "f240b6607dd0ab9cbb87ba3786346095764d2cbaff837af6b2dbc6b5df8d188c"), looks := false }, kinds := [], alts := [], laidByText := true, laidKinds := [.data], laidTests := true, laidLooks := .later }
def SquashPlacesCardSaid : Prop := Claim7.holds Tryd.pinned (.plain (OpenSpec.ofChange squashPlacesSpec)) squashPlacesCard

/-- THE TIED CARD OF 'bitloftlaw17.RefineNames'. -/
def refineNamesCard : Claim7 := { stood := { row := refineNamesRow, standIns := [], harness := (true, "f240b6607dd0ab9cbb87ba3786346095764d2cbaff837af6b2dbc6b5df8d188c"), looks := false }, kinds := [], alts := [], laidByText := true, laidKinds := [.data], laidTests := true, laidLooks := .later }
def RefineNamesCardSaid : Prop := Claim7.holds Tryd.pinned (.plain (OpenSpec.ofChange refineNamesSpec)) refineNamesCard

/-- THE SECOND FORM's CARD OF 'bitloftlaw04.SquashMakes'. -/
def squashMakesUptoCard : Claim7 := { stood := { row := squashMakesUptoRow, standIns := [], harness := (true, "f240b6607dd0ab9cbb87ba3786346095764d2cbaff837af6b2dbc6b5df8d188c"), looks := false }, kinds := [], alts := [], laidByText := true, laidKinds := [.data], laidTests := true, laidLooks := .later }
def SquashMakesUptoCardSaid : Prop := Claim7.holds Tryd.pinned (.plain (OpenSpec.upto squashMakesSpec)) squashMakesUptoCard

/-- THE SECOND FORM's CARD OF 'bitloftlaw04.SquashStretches'. -/
def squashStretchesUptoCard : Claim7 := { stood := { row := squashStretchesUptoRow, standIns := [], harness := (true, "f240b6607dd0ab9cbb87ba3786346095764d2cbaff837af6b2dbc6b5df8d188c"), looks := false }, kinds := [], alts := [], laidByText := true, laidKinds := [.data], laidTests := true, laidLooks := .later }
def SquashStretchesUptoCardSaid : Prop := Claim7.holds Tryd.pinned (.plain (OpenSpec.upto squashStretchesSpec)) squashStretchesUptoCard

/-- THE SECOND FORM's CARD OF 'bitloftlaw04.SquashRises'. -/
def squashRisesUptoCard : Claim7 := { stood := { row := squashRisesUptoRow, standIns := [], harness := (true, "f240b6607dd0ab9cbb87ba3786346095764d2cbaff837af6b2dbc6b5df8d188c"), looks := false }, kinds := [], alts := [], laidByText := true, laidKinds := [.data], laidTests := true, laidLooks := .later }
def SquashRisesUptoCardSaid : Prop := Claim7.holds Tryd.pinned (.plain (OpenSpec.upto squashRisesSpec)) squashRisesUptoCard

/-- THE SECOND FORM's CARD OF 'bitloftlaw04.SquashBack'. -/
def squashBackUptoCard : Claim7 := { stood := { row := squashBackUptoRow, standIns := [], harness := (true, "f240b6607dd0ab9cbb87ba3786346095764d2cbaff837af6b2dbc6b5df8d188c"), looks := false }, kinds := [], alts := [], laidByText := true, laidKinds := [.data], laidTests := true, laidLooks := .later }
def SquashBackUptoCardSaid : Prop := Claim7.holds Tryd.pinned (.plain (OpenSpec.upto squashBackSpec)) squashBackUptoCard

/-- THE SECOND FORM's CARD OF 'bitloftlaw04.SquashTurns'. -/
def squashTurnsUptoCard : Claim7 := { stood := { row := squashTurnsUptoRow, standIns := [], harness := (true, "f240b6607dd0ab9cbb87ba3786346095764d2cbaff837af6b2dbc6b5df8d188c"), looks := false }, kinds := [], alts := [], laidByText := true, laidKinds := [.data], laidTests := true, laidLooks := .later }
def SquashTurnsUptoCardSaid : Prop := Claim7.holds Tryd.pinned (.plain (OpenSpec.upto squashTurnsSpec)) squashTurnsUptoCard

/-- THE SECOND FORM's CARD OF 'bitloftlaw04.SquashNames'. -/
def squashNamesUptoCard : Claim7 := { stood := { row := squashNamesUptoRow, standIns := [], harness := (true, "f240b6607dd0ab9cbb87ba3786346095764d2cbaff837af6b2dbc6b5df8d188c"), looks := false }, kinds := [], alts := [], laidByText := true, laidKinds := [.data], laidTests := true, laidLooks := .later }
def SquashNamesUptoCardSaid : Prop := Claim7.holds Tryd.pinned (.plain (OpenSpec.upto squashNamesSpec)) squashNamesUptoCard

/-- THE SECOND FORM's CARD OF 'bitloftlaw04.SquashPlaces'. -/
def squashPlacesUptoCard : Claim7 := { stood := { row := squashPlacesUptoRow, standIns := [], harness := (true, "f240b6607dd0ab9cbb87ba3786346095764d2cbaff837af6b2dbc6b5df8d188c"), looks := false }, kinds := [], alts := [], laidByText := true, laidKinds := [.data], laidTests := true, laidLooks := .later }
def SquashPlacesUptoCardSaid : Prop := Claim7.holds Tryd.pinned (.plain (OpenSpec.upto squashPlacesSpec)) squashPlacesUptoCard

/-- THE SECOND FORM's CARD OF 'bitloftlaw17.RefineNames'. -/
def refineNamesUptoCard : Claim7 := { stood := { row := refineNamesUptoRow, standIns := [], harness := (true, "f240b6607dd0ab9cbb87ba3786346095764d2cbaff837af6b2dbc6b5df8d188c"), looks := false }, kinds := [], alts := [], laidByText := true, laidKinds := [.data], laidTests := true, laidLooks := .later }
def RefineNamesUptoCardSaid : Prop := Claim7.holds Tryd.pinned (.plain (OpenSpec.upto refineNamesSpec)) refineNamesUptoCard
end Rows
end Go.Proofs.YtinfkoinpnnnnaaDoor
