/-
  DERIVED. GIVEN WITH THE SEED: THE CARDS: each row of YtoihknngllmogaaDoorRows.lean that lists a variable, with what it lists TIED to the program's text (the seventh form; the later family's looks); each row that meets fmt, with fmt's text TOLD by the authors' own Lean function (tested against real Go, not proved from fmt's source: count such statements apart). THE CARD IS WHAT COUNTS. Prove the row's statement (the work); the ties are given (YtoihknngllmogaaDoorTie.lean); close each card by the builder's one call (the guide's Derived/Test/ToyasCard.lean, 'card_holds'). Laid BY PROGRAM, IN A SANDBOX (cutbox-door.mjs). By AI agents, Wed Nov 11 2026. No macro, syntax, notation, axiom, sorry.
-/
import Derived.Test.YtoihknngllmogaaDoorRows
import GoSem.ClaimSeven
namespace Go.Proofs.YtoihknngllmogaaDoor
namespace Rows

/-- THE TIED CARD OF 'skirmishlaw01.NumDivides'. -/
def numDividesCard : Claim7 := { stood := { row := numDividesRow, standIns := [], harness := (true, "a9d2c98b43f495d439f78dff578c8e693a5c184e0576a529fd91eeaa276419ab"), looks := true }, kinds := [], alts := [], laidByText := true, laidKinds := [.data, .data, .data, .data, .sentinel, .sentinel, .pinned], laidTests := true, laidLooks := .later }
def NumDividesCardSaid : Prop := Claim7.holds Tryd.pinned (.plain (OpenSpec.ofChange numDividesSpec)) numDividesCard

/-- THE TIED CARD OF 'skirmishlaw01.NumMultiplies'. -/
def numMultipliesCard : Claim7 := { stood := { row := numMultipliesRow, standIns := [], harness := (true, "a9d2c98b43f495d439f78dff578c8e693a5c184e0576a529fd91eeaa276419ab"), looks := true }, kinds := [], alts := [], laidByText := true, laidKinds := [.data, .data, .data, .data, .sentinel, .sentinel, .pinned], laidTests := true, laidLooks := .later }
def NumMultipliesCardSaid : Prop := Claim7.holds Tryd.pinned (.plain (OpenSpec.ofChange numMultipliesSpec)) numMultipliesCard

/-- THE TIED CARD OF 'skirmishlaw01.NumSquares'. -/
def numSquaresCard : Claim7 := { stood := { row := numSquaresRow, standIns := [], harness := (true, "a9d2c98b43f495d439f78dff578c8e693a5c184e0576a529fd91eeaa276419ab"), looks := true }, kinds := [], alts := [], laidByText := true, laidKinds := [.data, .data, .data, .data, .sentinel, .sentinel, .pinned], laidTests := true, laidLooks := .later }
def NumSquaresCardSaid : Prop := Claim7.holds Tryd.pinned (.plain (OpenSpec.ofChange numSquaresSpec)) numSquaresCard

/-- THE TIED CARD OF 'skirmishlaw01.NumClamps'. -/
def numClampsCard : Claim7 := { stood := { row := numClampsRow, standIns := [], harness := (true, "a9d2c98b43f495d439f78dff578c8e693a5c184e0576a529fd91eeaa276419ab"), looks := true }, kinds := [], alts := [], laidByText := true, laidKinds := [.data, .data, .data, .data, .sentinel, .sentinel, .pinned], laidTests := true, laidLooks := .later }
def NumClampsCardSaid : Prop := Claim7.holds Tryd.pinned (.plain (OpenSpec.ofChange numClampsSpec)) numClampsCard

/-- THE TIED CARD OF 'skirmishlaw01.NumCells'. -/
def numCellsCard : Claim7 := { stood := { row := numCellsRow, standIns := [], harness := (true, "a9d2c98b43f495d439f78dff578c8e693a5c184e0576a529fd91eeaa276419ab"), looks := true }, kinds := [], alts := [], laidByText := true, laidKinds := [.data, .data, .data, .data, .sentinel, .sentinel, .pinned], laidTests := true, laidLooks := .later }
def NumCellsCardSaid : Prop := Claim7.holds Tryd.pinned (.plain (OpenSpec.ofChange numCellsSpec)) numCellsCard

/-- THE TIED CARD OF 'skirmishlaw01.NumFormats'. -/
def numFormatsCard : Claim7 := { stood := { row := numFormatsRow, standIns := [], harness := (true, "a9d2c98b43f495d439f78dff578c8e693a5c184e0576a529fd91eeaa276419ab"), looks := true }, kinds := [], alts := [], laidByText := true, laidKinds := [.data, .data, .data, .data, .sentinel, .sentinel, .pinned], laidTests := true, laidLooks := .later }
def NumFormatsCardSaid : Prop := Claim7.holds Tryd.pinned (.plain (OpenSpec.ofChange numFormatsSpec)) numFormatsCard

/-- THE TIED CARD OF 'skirmishlaw01.NumParses'. -/
def numParsesCard : Claim7 := { stood := { row := numParsesRow, standIns := [], harness := (true, "a9d2c98b43f495d439f78dff578c8e693a5c184e0576a529fd91eeaa276419ab"), looks := true }, kinds := [], alts := [], laidByText := true, laidKinds := [.data, .data, .data, .data, .sentinel, .sentinel, .pinned], laidTests := true, laidLooks := .later }
def NumParsesCardSaid : Prop := Claim7.holds Tryd.pinned (.plain (OpenSpec.ofChange numParsesSpec)) numParsesCard

/-- THE SECOND FORM's CARD OF 'skirmishlaw01.NumDivides'. -/
def numDividesUptoCard : Claim7 := { stood := { row := numDividesUptoRow, standIns := [], harness := (true, "a9d2c98b43f495d439f78dff578c8e693a5c184e0576a529fd91eeaa276419ab"), looks := true }, kinds := [], alts := [], laidByText := true, laidKinds := [.data, .data, .data, .data, .sentinel, .sentinel, .pinned], laidTests := true, laidLooks := .later }
def NumDividesUptoCardSaid : Prop := Claim7.holds Tryd.pinned (.plain (OpenSpec.upto numDividesSpec)) numDividesUptoCard

/-- THE SECOND FORM's CARD OF 'skirmishlaw01.NumMultiplies'. -/
def numMultipliesUptoCard : Claim7 := { stood := { row := numMultipliesUptoRow, standIns := [], harness := (true, "a9d2c98b43f495d439f78dff578c8e693a5c184e0576a529fd91eeaa276419ab"), looks := true }, kinds := [], alts := [], laidByText := true, laidKinds := [.data, .data, .data, .data, .sentinel, .sentinel, .pinned], laidTests := true, laidLooks := .later }
def NumMultipliesUptoCardSaid : Prop := Claim7.holds Tryd.pinned (.plain (OpenSpec.upto numMultipliesSpec)) numMultipliesUptoCard

/-- THE SECOND FORM's CARD OF 'skirmishlaw01.NumSquares'. -/
def numSquaresUptoCard : Claim7 := { stood := { row := numSquaresUptoRow, standIns := [], harness := (true, "a9d2c98b43f495d439f78dff578c8e693a5c184e0576a529fd91eeaa276419ab"), looks := true }, kinds := [], alts := [], laidByText := true, laidKinds := [.data, .data, .data, .data, .sentinel, .sentinel, .pinned], laidTests := true, laidLooks := .later }
def NumSquaresUptoCardSaid : Prop := Claim7.holds Tryd.pinned (.plain (OpenSpec.upto numSquaresSpec)) numSquaresUptoCard

/-- THE SECOND FORM's CARD OF 'skirmishlaw01.NumClamps'. -/
def numClampsUptoCard : Claim7 := { stood := { row := numClampsUptoRow, standIns := [], harness := (true, "a9d2c98b43f495d439f78dff578c8e693a5c184e0576a529fd91eeaa276419ab"), looks := true }, kinds := [], alts := [], laidByText := true, laidKinds := [.data, .data, .data, .data, .sentinel, .sentinel, .pinned], laidTests := true, laidLooks := .later }
def NumClampsUptoCardSaid : Prop := Claim7.holds Tryd.pinned (.plain (OpenSpec.upto numClampsSpec)) numClampsUptoCard

/-- THE SECOND FORM's CARD OF 'skirmishlaw01.NumCells'. -/
def numCellsUptoCard : Claim7 := { stood := { row := numCellsUptoRow, standIns := [], harness := (true, "a9d2c98b43f495d439f78dff578c8e693a5c184e0576a529fd91eeaa276419ab"), looks := true }, kinds := [], alts := [], laidByText := true, laidKinds := [.data, .data, .data, .data, .sentinel, .sentinel, .pinned], laidTests := true, laidLooks := .later }
def NumCellsUptoCardSaid : Prop := Claim7.holds Tryd.pinned (.plain (OpenSpec.upto numCellsSpec)) numCellsUptoCard

/-- THE SECOND FORM's CARD OF 'skirmishlaw01.NumFormats'. -/
def numFormatsUptoCard : Claim7 := { stood := { row := numFormatsUptoRow, standIns := [], harness := (true, "a9d2c98b43f495d439f78dff578c8e693a5c184e0576a529fd91eeaa276419ab"), looks := true }, kinds := [], alts := [], laidByText := true, laidKinds := [.data, .data, .data, .data, .sentinel, .sentinel, .pinned], laidTests := true, laidLooks := .later }
def NumFormatsUptoCardSaid : Prop := Claim7.holds Tryd.pinned (.plain (OpenSpec.upto numFormatsSpec)) numFormatsUptoCard

/-- THE SECOND FORM's CARD OF 'skirmishlaw01.NumParses'. -/
def numParsesUptoCard : Claim7 := { stood := { row := numParsesUptoRow, standIns := [], harness := (true, "a9d2c98b43f495d439f78dff578c8e693a5c184e0576a529fd91eeaa276419ab"), looks := true }, kinds := [], alts := [], laidByText := true, laidKinds := [.data, .data, .data, .data, .sentinel, .sentinel, .pinned], laidTests := true, laidLooks := .later }
def NumParsesUptoCardSaid : Prop := Claim7.holds Tryd.pinned (.plain (OpenSpec.upto numParsesSpec)) numParsesUptoCard
end Rows
end Go.Proofs.YtoihknngllmogaaDoor
