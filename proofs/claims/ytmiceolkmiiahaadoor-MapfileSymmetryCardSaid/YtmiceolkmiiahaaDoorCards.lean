/-
  DERIVED. GIVEN WITH THE SEED: THE CARDS: each row of YtmiceolkmiiahaaDoorRows.lean that lists a variable, with what it lists TIED to the program's text (the seventh form; the later family's looks); each row that meets fmt, with fmt's text TOLD by the authors' own Lean function (tested against real Go, not proved from fmt's source: count such statements apart). THE CARD IS WHAT COUNTS. Prove the row's statement (the work); the ties are given (YtmiceolkmiiahaaDoorTie.lean); close each card by the builder's one call (the guide's Derived/Test/ToyasCard.lean, 'card_holds'). Laid BY PROGRAM, IN A SANDBOX (cutbox-door.mjs). By AI agents, Wed Nov 11 2026. No macro, syntax, notation, axiom, sorry.
-/
import Derived.Test.YtmiceolkmiiahaaDoorRows
import GoSem.ClaimSeven
namespace Go.Proofs.YtmiceolkmiiahaaDoor
namespace Rows

/-- THE TIED CARD OF 'skirmishlaw08.MapfileLong'. -/
def mapfileLongCard : Claim7 := { stood := { row := mapfileLongRow, standIns := [], harness := (true, "b5f63ba47cfdbed62b3060269b439845f6634e80347c51b41427891f347f7927"), looks := true }, kinds := [], alts := [], laidByText := true, laidKinds := [.data, .data, .data, .data, .sentinel, .sentinel, .data, .pinned], laidTests := true, laidLooks := .later }
def MapfileLongCardSaid : Prop := Claim7.holds Tryd.pinned (.plain (OpenSpec.ofChange mapfileLongSpec)) mapfileLongCard

/-- THE TIED CARD OF 'skirmishlaw08.MapfileAccepts'. -/
def mapfileAcceptsCard : Claim7 := { stood := { row := mapfileAcceptsRow, standIns := [], harness := (true, "b5f63ba47cfdbed62b3060269b439845f6634e80347c51b41427891f347f7927"), looks := true }, kinds := [], alts := [], laidByText := true, laidKinds := [.data, .data, .data, .data, .sentinel, .sentinel, .data, .pinned], laidTests := true, laidLooks := .later }
def MapfileAcceptsCardSaid : Prop := Claim7.holds Tryd.pinned (.plain (OpenSpec.ofChange mapfileAcceptsSpec)) mapfileAcceptsCard

/-- THE TIED CARD OF 'skirmishlaw08.MapfileSymmetry'. -/
def mapfileSymmetryCard : Claim7 := { stood := { row := mapfileSymmetryRow, standIns := [], harness := (true, "b5f63ba47cfdbed62b3060269b439845f6634e80347c51b41427891f347f7927"), looks := true }, kinds := [], alts := [], laidByText := true, laidKinds := [.data, .data, .data, .data, .sentinel, .sentinel, .data, .pinned], laidTests := true, laidLooks := .later }
def MapfileSymmetryCardSaid : Prop := Claim7.holds Tryd.pinned (.plain (OpenSpec.ofChange mapfileSymmetrySpec)) mapfileSymmetryCard

/-- THE SECOND FORM's CARD OF 'skirmishlaw08.MapfileLong'. -/
def mapfileLongUptoCard : Claim7 := { stood := { row := mapfileLongUptoRow, standIns := [], harness := (true, "b5f63ba47cfdbed62b3060269b439845f6634e80347c51b41427891f347f7927"), looks := true }, kinds := [], alts := [], laidByText := true, laidKinds := [.data, .data, .data, .data, .sentinel, .sentinel, .data, .pinned], laidTests := true, laidLooks := .later }
def MapfileLongUptoCardSaid : Prop := Claim7.holds Tryd.pinned (.plain (OpenSpec.upto mapfileLongSpec)) mapfileLongUptoCard

/-- THE SECOND FORM's CARD OF 'skirmishlaw08.MapfileAccepts'. -/
def mapfileAcceptsUptoCard : Claim7 := { stood := { row := mapfileAcceptsUptoRow, standIns := [], harness := (true, "b5f63ba47cfdbed62b3060269b439845f6634e80347c51b41427891f347f7927"), looks := true }, kinds := [], alts := [], laidByText := true, laidKinds := [.data, .data, .data, .data, .sentinel, .sentinel, .data, .pinned], laidTests := true, laidLooks := .later }
def MapfileAcceptsUptoCardSaid : Prop := Claim7.holds Tryd.pinned (.plain (OpenSpec.upto mapfileAcceptsSpec)) mapfileAcceptsUptoCard

/-- THE SECOND FORM's CARD OF 'skirmishlaw08.MapfileSymmetry'. -/
def mapfileSymmetryUptoCard : Claim7 := { stood := { row := mapfileSymmetryUptoRow, standIns := [], harness := (true, "b5f63ba47cfdbed62b3060269b439845f6634e80347c51b41427891f347f7927"), looks := true }, kinds := [], alts := [], laidByText := true, laidKinds := [.data, .data, .data, .data, .sentinel, .sentinel, .data, .pinned], laidTests := true, laidLooks := .later }
def MapfileSymmetryUptoCardSaid : Prop := Claim7.holds Tryd.pinned (.plain (OpenSpec.upto mapfileSymmetrySpec)) mapfileSymmetryUptoCard
end Rows
end Go.Proofs.YtmiceolkmiiahaaDoor
