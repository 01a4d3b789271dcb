/-
  DERIVED. GIVEN WITH THE SEED: THE CARDS: each row of YtlfljoihcjmnkaaDoorRows.lean that lists a variable, with what it lists TIED to the program's text (the seventh form; the later family's looks); each row that meets fmt, with fmt's text TOLD by the authors' own Lean function (tested against real Go, not proved from fmt's source: count such statements apart). THE CARD IS WHAT COUNTS. Prove the row's statement (the work); the ties are given (YtlfljoihcjmnkaaDoorTie.lean); close each card by the builder's one call (the guide's Derived/Test/ToyasCard.lean, 'card_holds'). Laid BY PROGRAM, IN A SANDBOX (cutbox-door.mjs). By AI agents, Wed Nov 11 2026. No macro, syntax, notation, axiom, sorry.
-/
import Derived.Test.YtlfljoihcjmnkaaDoorRows
import GoSem.ClaimSeven
namespace Go.Proofs.YtlfljoihcjmnkaaDoor
namespace Rows

/-- THE TIED CARD OF 'mainsheetlaw07.MaskHall'. -/
def maskHallCard : Claim7 := { stood := { row := maskHallRow, standIns := [], harness := (true, "3101f18e272d70edcab23c95cef3c69164c138fc6e08801e00b1e822ad802186"), looks := false }, kinds := [], alts := [], laidByText := true, laidKinds := [.data], laidTests := true, laidLooks := .later }
def MaskHallCardSaid : Prop := Claim7.holds Tryd.pinned (.plain (OpenSpec.ofChange maskHallSpec)) maskHallCard

/-- THE TIED CARD OF 'mainsheetlaw07.MaskTells'. -/
def maskTellsCard : Claim7 := { stood := { row := maskTellsRow, standIns := [], harness := (true, "3101f18e272d70edcab23c95cef3c69164c138fc6e08801e00b1e822ad802186"), looks := false }, kinds := [], alts := [], laidByText := true, laidKinds := [.data], laidTests := true, laidLooks := .later }
def MaskTellsCardSaid : Prop := Claim7.holds Tryd.pinned (.plain (OpenSpec.ofChange maskTellsSpec)) maskTellsCard

/-- THE TIED CARD OF 'mainsheetlaw07.MaskChooses'. -/
def maskChoosesCard : Claim7 := { stood := { row := maskChoosesRow, standIns := [], harness := (true, "3101f18e272d70edcab23c95cef3c69164c138fc6e08801e00b1e822ad802186"), looks := false }, kinds := [], alts := [], laidByText := true, laidKinds := [.data], laidTests := true, laidLooks := .later }
def MaskChoosesCardSaid : Prop := Claim7.holds Tryd.pinned (.plain (OpenSpec.ofChange maskChoosesSpec)) maskChoosesCard

/-- THE TIED CARD OF 'mainsheetlaw07.MaskFirst'. -/
def maskFirstCard : Claim7 := { stood := { row := maskFirstRow, standIns := [], harness := (true, "3101f18e272d70edcab23c95cef3c69164c138fc6e08801e00b1e822ad802186"), looks := false }, kinds := [], alts := [], laidByText := true, laidKinds := [.data], laidTests := true, laidLooks := .later }
def MaskFirstCardSaid : Prop := Claim7.holds Tryd.pinned (.plain (OpenSpec.ofChange maskFirstSpec)) maskFirstCard

/-- THE TIED CARD OF 'mainsheetlaw07.MaskFewer'. -/
def maskFewerCard : Claim7 := { stood := { row := maskFewerRow, standIns := [], harness := (true, "3101f18e272d70edcab23c95cef3c69164c138fc6e08801e00b1e822ad802186"), looks := false }, kinds := [], alts := [], laidByText := true, laidKinds := [.data], laidTests := true, laidLooks := .later }
def MaskFewerCardSaid : Prop := Claim7.holds Tryd.pinned (.plain (OpenSpec.ofChange maskFewerSpec)) maskFewerCard

/-- THE SECOND FORM's CARD OF 'mainsheetlaw07.MaskHall'. -/
def maskHallUptoCard : Claim7 := { stood := { row := maskHallUptoRow, standIns := [], harness := (true, "3101f18e272d70edcab23c95cef3c69164c138fc6e08801e00b1e822ad802186"), looks := false }, kinds := [], alts := [], laidByText := true, laidKinds := [.data], laidTests := true, laidLooks := .later }
def MaskHallUptoCardSaid : Prop := Claim7.holds Tryd.pinned (.plain (OpenSpec.upto maskHallSpec)) maskHallUptoCard

/-- THE SECOND FORM's CARD OF 'mainsheetlaw07.MaskTells'. -/
def maskTellsUptoCard : Claim7 := { stood := { row := maskTellsUptoRow, standIns := [], harness := (true, "3101f18e272d70edcab23c95cef3c69164c138fc6e08801e00b1e822ad802186"), looks := false }, kinds := [], alts := [], laidByText := true, laidKinds := [.data], laidTests := true, laidLooks := .later }
def MaskTellsUptoCardSaid : Prop := Claim7.holds Tryd.pinned (.plain (OpenSpec.upto maskTellsSpec)) maskTellsUptoCard

/-- THE SECOND FORM's CARD OF 'mainsheetlaw07.MaskChooses'. -/
def maskChoosesUptoCard : Claim7 := { stood := { row := maskChoosesUptoRow, standIns := [], harness := (true, "3101f18e272d70edcab23c95cef3c69164c138fc6e08801e00b1e822ad802186"), looks := false }, kinds := [], alts := [], laidByText := true, laidKinds := [.data], laidTests := true, laidLooks := .later }
def MaskChoosesUptoCardSaid : Prop := Claim7.holds Tryd.pinned (.plain (OpenSpec.upto maskChoosesSpec)) maskChoosesUptoCard

/-- THE SECOND FORM's CARD OF 'mainsheetlaw07.MaskFirst'. -/
def maskFirstUptoCard : Claim7 := { stood := { row := maskFirstUptoRow, standIns := [], harness := (true, "3101f18e272d70edcab23c95cef3c69164c138fc6e08801e00b1e822ad802186"), looks := false }, kinds := [], alts := [], laidByText := true, laidKinds := [.data], laidTests := true, laidLooks := .later }
def MaskFirstUptoCardSaid : Prop := Claim7.holds Tryd.pinned (.plain (OpenSpec.upto maskFirstSpec)) maskFirstUptoCard

/-- THE SECOND FORM's CARD OF 'mainsheetlaw07.MaskFewer'. -/
def maskFewerUptoCard : Claim7 := { stood := { row := maskFewerUptoRow, standIns := [], harness := (true, "3101f18e272d70edcab23c95cef3c69164c138fc6e08801e00b1e822ad802186"), looks := false }, kinds := [], alts := [], laidByText := true, laidKinds := [.data], laidTests := true, laidLooks := .later }
def MaskFewerUptoCardSaid : Prop := Claim7.holds Tryd.pinned (.plain (OpenSpec.upto maskFewerSpec)) maskFewerUptoCard
end Rows
end Go.Proofs.YtlfljoihcjmnkaaDoor
