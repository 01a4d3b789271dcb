/-
  DERIVED. GIVEN WITH THE SEED: THE CARDS: each row of YtdmieaidheelbaaDoorRows.lean that lists a variable, with what it lists TIED to the program's text (the seventh form; the later family's looks); each row that meets fmt, with fmt's text TOLD by the authors' own Lean function (tested against real Go, not proved from fmt's source: count such statements apart). THE CARD IS WHAT COUNTS. Prove the row's statement (the work); the ties are given (YtdmieaidheelbaaDoorTie.lean); close each card by the builder's one call (the guide's Derived/Test/ToyasCard.lean, 'card_holds'). Laid BY PROGRAM, IN A SANDBOX (cutbox-door.mjs). By AI agents, Wed Nov 11 2026. No macro, syntax, notation, axiom, sorry.
-/
import Derived.Test.YtdmieaidheelbaaDoorRows
import GoSem.ClaimSeven
namespace Go.Proofs.YtdmieaidheelbaaDoor
namespace Rows

/-- THE TIED CARD OF 'mainsheetlaw13.PlaceMore'. -/
def placeMoreCard : Claim7 := { stood := { row := placeMoreRow, standIns := [], harness := (true, "5eaf5742e215172989a54d5c054ba89262936cae5f8ba45b3983073b3a6a37b4"), looks := false }, kinds := [], alts := [], laidByText := true, laidKinds := [.data], laidTests := true, laidLooks := .later }
def PlaceMoreCardSaid : Prop := Claim7.holds Tryd.pinned (.plain (OpenSpec.ofChange placeMoreSpec)) placeMoreCard

/-- THE TIED CARD OF 'mainsheetlaw13.PlaceFull'. -/
def placeFullCard : Claim7 := { stood := { row := placeFullRow, standIns := [], harness := (true, "5eaf5742e215172989a54d5c054ba89262936cae5f8ba45b3983073b3a6a37b4"), looks := false }, kinds := [], alts := [], laidByText := true, laidKinds := [.data], laidTests := true, laidLooks := .later }
def PlaceFullCardSaid : Prop := Claim7.holds Tryd.pinned (.plain (OpenSpec.ofChange placeFullSpec)) placeFullCard

/-- THE TIED CARD OF 'mainsheetlaw19.PickWhole'. -/
def pickWholeCard : Claim7 := { stood := { row := pickWholeRow, standIns := [], harness := (true, "5eaf5742e215172989a54d5c054ba89262936cae5f8ba45b3983073b3a6a37b4"), looks := false }, kinds := [], alts := [], laidByText := true, laidKinds := [.data], laidTests := true, laidLooks := .later }
def PickWholeCardSaid : Prop := Claim7.holds Tryd.pinned (.plain (OpenSpec.ofChange pickWholeSpec)) pickWholeCard

/-- THE TIED CARD OF 'mainsheetlaw19.PickTells'. -/
def pickTellsCard : Claim7 := { stood := { row := pickTellsRow, standIns := [], harness := (true, "5eaf5742e215172989a54d5c054ba89262936cae5f8ba45b3983073b3a6a37b4"), looks := false }, kinds := [], alts := [], laidByText := true, laidKinds := [.data], laidTests := true, laidLooks := .later }
def PickTellsCardSaid : Prop := Claim7.holds Tryd.pinned (.plain (OpenSpec.ofChange pickTellsSpec)) pickTellsCard

/-- THE TIED CARD OF 'mainsheetlaw13.PlacePlaces'. -/
def placePlacesCard : Claim7 := { stood := { row := placePlacesRow, standIns := [], harness := (true, "5eaf5742e215172989a54d5c054ba89262936cae5f8ba45b3983073b3a6a37b4"), looks := false }, kinds := [], alts := [], laidByText := true, laidKinds := [.data], laidTests := true, laidLooks := .later }
def PlacePlacesCardSaid : Prop := Claim7.holds Tryd.pinned (.plain (OpenSpec.ofChange placePlacesSpec)) placePlacesCard

/-- THE TIED CARD OF 'mainsheetlaw13.PlaceWaits'. -/
def placeWaitsCard : Claim7 := { stood := { row := placeWaitsRow, standIns := [], harness := (true, "5eaf5742e215172989a54d5c054ba89262936cae5f8ba45b3983073b3a6a37b4"), looks := false }, kinds := [], alts := [], laidByText := true, laidKinds := [.data], laidTests := true, laidLooks := .later }
def PlaceWaitsCardSaid : Prop := Claim7.holds Tryd.pinned (.plain (OpenSpec.ofChange placeWaitsSpec)) placeWaitsCard

/-- THE TIED CARD OF 'mainsheetlaw13.PlaceFair'. -/
def placeFairCard : Claim7 := { stood := { row := placeFairRow, standIns := [], harness := (true, "5eaf5742e215172989a54d5c054ba89262936cae5f8ba45b3983073b3a6a37b4"), looks := false }, kinds := [], alts := [], laidByText := true, laidKinds := [.data], laidTests := true, laidLooks := .later }
def PlaceFairCardSaid : Prop := Claim7.holds Tryd.pinned (.plain (OpenSpec.ofChange placeFairSpec)) placeFairCard

/-- THE TIED CARD OF 'mainsheetlaw19.PickPicks'. -/
def pickPicksCard : Claim7 := { stood := { row := pickPicksRow, standIns := [], harness := (true, "5eaf5742e215172989a54d5c054ba89262936cae5f8ba45b3983073b3a6a37b4"), looks := false }, kinds := [], alts := [], laidByText := true, laidKinds := [.data], laidTests := true, laidLooks := .later }
def PickPicksCardSaid : Prop := Claim7.holds Tryd.pinned (.plain (OpenSpec.ofChange pickPicksSpec)) pickPicksCard

/-- THE TIED CARD OF 'mainsheetlaw19.PickChoices'. -/
def pickChoicesCard : Claim7 := { stood := { row := pickChoicesRow, standIns := [], harness := (true, "5eaf5742e215172989a54d5c054ba89262936cae5f8ba45b3983073b3a6a37b4"), looks := false }, kinds := [], alts := [], laidByText := true, laidKinds := [.data], laidTests := true, laidLooks := .later }
def PickChoicesCardSaid : Prop := Claim7.holds Tryd.pinned (.plain (OpenSpec.ofChange pickChoicesSpec)) pickChoicesCard

/-- THE TIED CARD OF 'mainsheetlaw19.PickBack'. -/
def pickBackCard : Claim7 := { stood := { row := pickBackRow, standIns := [], harness := (true, "5eaf5742e215172989a54d5c054ba89262936cae5f8ba45b3983073b3a6a37b4"), looks := false }, kinds := [], alts := [], laidByText := true, laidKinds := [.data], laidTests := true, laidLooks := .later }
def PickBackCardSaid : Prop := Claim7.holds Tryd.pinned (.plain (OpenSpec.ofChange pickBackSpec)) pickBackCard

/-- THE TIED CARD OF 'mainsheetlaw19.PickWaits'. -/
def pickWaitsCard : Claim7 := { stood := { row := pickWaitsRow, standIns := [], harness := (true, "5eaf5742e215172989a54d5c054ba89262936cae5f8ba45b3983073b3a6a37b4"), looks := false }, kinds := [], alts := [], laidByText := true, laidKinds := [.data], laidTests := true, laidLooks := .later }
def PickWaitsCardSaid : Prop := Claim7.holds Tryd.pinned (.plain (OpenSpec.ofChange pickWaitsSpec)) pickWaitsCard

/-- THE TIED CARD OF 'mainsheetlaw19.PickAlone'. -/
def pickAloneCard : Claim7 := { stood := { row := pickAloneRow, standIns := [], harness := (true, "5eaf5742e215172989a54d5c054ba89262936cae5f8ba45b3983073b3a6a37b4"), looks := false }, kinds := [], alts := [], laidByText := true, laidKinds := [.data], laidTests := true, laidLooks := .later }
def PickAloneCardSaid : Prop := Claim7.holds Tryd.pinned (.plain (OpenSpec.ofChange pickAloneSpec)) pickAloneCard

/-- THE SECOND FORM's CARD OF 'mainsheetlaw13.PlaceMore'. -/
def placeMoreUptoCard : Claim7 := { stood := { row := placeMoreUptoRow, standIns := [], harness := (true, "5eaf5742e215172989a54d5c054ba89262936cae5f8ba45b3983073b3a6a37b4"), looks := false }, kinds := [], alts := [], laidByText := true, laidKinds := [.data], laidTests := true, laidLooks := .later }
def PlaceMoreUptoCardSaid : Prop := Claim7.holds Tryd.pinned (.plain (OpenSpec.upto placeMoreSpec)) placeMoreUptoCard

/-- THE SECOND FORM's CARD OF 'mainsheetlaw13.PlaceFull'. -/
def placeFullUptoCard : Claim7 := { stood := { row := placeFullUptoRow, standIns := [], harness := (true, "5eaf5742e215172989a54d5c054ba89262936cae5f8ba45b3983073b3a6a37b4"), looks := false }, kinds := [], alts := [], laidByText := true, laidKinds := [.data], laidTests := true, laidLooks := .later }
def PlaceFullUptoCardSaid : Prop := Claim7.holds Tryd.pinned (.plain (OpenSpec.upto placeFullSpec)) placeFullUptoCard

/-- THE SECOND FORM's CARD OF 'mainsheetlaw19.PickWhole'. -/
def pickWholeUptoCard : Claim7 := { stood := { row := pickWholeUptoRow, standIns := [], harness := (true, "5eaf5742e215172989a54d5c054ba89262936cae5f8ba45b3983073b3a6a37b4"), looks := false }, kinds := [], alts := [], laidByText := true, laidKinds := [.data], laidTests := true, laidLooks := .later }
def PickWholeUptoCardSaid : Prop := Claim7.holds Tryd.pinned (.plain (OpenSpec.upto pickWholeSpec)) pickWholeUptoCard

/-- THE SECOND FORM's CARD OF 'mainsheetlaw19.PickTells'. -/
def pickTellsUptoCard : Claim7 := { stood := { row := pickTellsUptoRow, standIns := [], harness := (true, "5eaf5742e215172989a54d5c054ba89262936cae5f8ba45b3983073b3a6a37b4"), looks := false }, kinds := [], alts := [], laidByText := true, laidKinds := [.data], laidTests := true, laidLooks := .later }
def PickTellsUptoCardSaid : Prop := Claim7.holds Tryd.pinned (.plain (OpenSpec.upto pickTellsSpec)) pickTellsUptoCard

/-- THE SECOND FORM's CARD OF 'mainsheetlaw13.PlacePlaces'. -/
def placePlacesUptoCard : Claim7 := { stood := { row := placePlacesUptoRow, standIns := [], harness := (true, "5eaf5742e215172989a54d5c054ba89262936cae5f8ba45b3983073b3a6a37b4"), looks := false }, kinds := [], alts := [], laidByText := true, laidKinds := [.data], laidTests := true, laidLooks := .later }
def PlacePlacesUptoCardSaid : Prop := Claim7.holds Tryd.pinned (.plain (OpenSpec.upto placePlacesSpec)) placePlacesUptoCard

/-- THE SECOND FORM's CARD OF 'mainsheetlaw13.PlaceWaits'. -/
def placeWaitsUptoCard : Claim7 := { stood := { row := placeWaitsUptoRow, standIns := [], harness := (true, "5eaf5742e215172989a54d5c054ba89262936cae5f8ba45b3983073b3a6a37b4"), looks := false }, kinds := [], alts := [], laidByText := true, laidKinds := [.data], laidTests := true, laidLooks := .later }
def PlaceWaitsUptoCardSaid : Prop := Claim7.holds Tryd.pinned (.plain (OpenSpec.upto placeWaitsSpec)) placeWaitsUptoCard

/-- THE SECOND FORM's CARD OF 'mainsheetlaw13.PlaceFair'. -/
def placeFairUptoCard : Claim7 := { stood := { row := placeFairUptoRow, standIns := [], harness := (true, "5eaf5742e215172989a54d5c054ba89262936cae5f8ba45b3983073b3a6a37b4"), looks := false }, kinds := [], alts := [], laidByText := true, laidKinds := [.data], laidTests := true, laidLooks := .later }
def PlaceFairUptoCardSaid : Prop := Claim7.holds Tryd.pinned (.plain (OpenSpec.upto placeFairSpec)) placeFairUptoCard

/-- THE SECOND FORM's CARD OF 'mainsheetlaw19.PickPicks'. -/
def pickPicksUptoCard : Claim7 := { stood := { row := pickPicksUptoRow, standIns := [], harness := (true, "5eaf5742e215172989a54d5c054ba89262936cae5f8ba45b3983073b3a6a37b4"), looks := false }, kinds := [], alts := [], laidByText := true, laidKinds := [.data], laidTests := true, laidLooks := .later }
def PickPicksUptoCardSaid : Prop := Claim7.holds Tryd.pinned (.plain (OpenSpec.upto pickPicksSpec)) pickPicksUptoCard

/-- THE SECOND FORM's CARD OF 'mainsheetlaw19.PickChoices'. -/
def pickChoicesUptoCard : Claim7 := { stood := { row := pickChoicesUptoRow, standIns := [], harness := (true, "5eaf5742e215172989a54d5c054ba89262936cae5f8ba45b3983073b3a6a37b4"), looks := false }, kinds := [], alts := [], laidByText := true, laidKinds := [.data], laidTests := true, laidLooks := .later }
def PickChoicesUptoCardSaid : Prop := Claim7.holds Tryd.pinned (.plain (OpenSpec.upto pickChoicesSpec)) pickChoicesUptoCard

/-- THE SECOND FORM's CARD OF 'mainsheetlaw19.PickBack'. -/
def pickBackUptoCard : Claim7 := { stood := { row := pickBackUptoRow, standIns := [], harness := (true, "5eaf5742e215172989a54d5c054ba89262936cae5f8ba45b3983073b3a6a37b4"), looks := false }, kinds := [], alts := [], laidByText := true, laidKinds := [.data], laidTests := true, laidLooks := .later }
def PickBackUptoCardSaid : Prop := Claim7.holds Tryd.pinned (.plain (OpenSpec.upto pickBackSpec)) pickBackUptoCard

/-- THE SECOND FORM's CARD OF 'mainsheetlaw19.PickWaits'. -/
def pickWaitsUptoCard : Claim7 := { stood := { row := pickWaitsUptoRow, standIns := [], harness := (true, "5eaf5742e215172989a54d5c054ba89262936cae5f8ba45b3983073b3a6a37b4"), looks := false }, kinds := [], alts := [], laidByText := true, laidKinds := [.data], laidTests := true, laidLooks := .later }
def PickWaitsUptoCardSaid : Prop := Claim7.holds Tryd.pinned (.plain (OpenSpec.upto pickWaitsSpec)) pickWaitsUptoCard

/-- THE SECOND FORM's CARD OF 'mainsheetlaw19.PickAlone'. -/
def pickAloneUptoCard : Claim7 := { stood := { row := pickAloneUptoRow, standIns := [], harness := (true, "5eaf5742e215172989a54d5c054ba89262936cae5f8ba45b3983073b3a6a37b4"), looks := false }, kinds := [], alts := [], laidByText := true, laidKinds := [.data], laidTests := true, laidLooks := .later }
def PickAloneUptoCardSaid : Prop := Claim7.holds Tryd.pinned (.plain (OpenSpec.upto pickAloneSpec)) pickAloneUptoCard
end Rows
end Go.Proofs.YtdmieaidheelbaaDoor
