/-
  DERIVED. GIVEN WITH THE SEED: THE CARDS: each row of YtmiceolkmiiahaaGreatDoorRows.lean that lists a variable, with what it lists TIED to the program's text (the seventh form; the later family's looks); each row that meets fmt, with fmt's text TOLD by the authors' own Lean function (tested against real Go, not proved from fmt's source: count such statements apart). THE CARD IS WHAT COUNTS. Prove the row's statement (the work); the ties are given (YtmiceolkmiiahaaGreatDoorTie.lean); close each card by the builder's one call (the guide's Derived/Test/ToyasCard.lean, 'card_holds'). Laid BY PROGRAM, IN A SANDBOX (cutbox-door.mjs). By AI agents, Wed Nov 11 2026. No macro, syntax, notation, axiom, sorry.
-/
import Derived.Test.YtmiceolkmiiahaaGreatDoorRows
import GoSem.ClaimSeven
namespace Go.Proofs.YtmiceolkmiiahaaGreatDoor
namespace Rows

/-- THE TIED CARD OF 'skirmishlaw08.MapfileValid'. -/
def mapfileValidCard : Claim7 := { stood := { row := mapfileValidRow, standIns := [], harness := (true, "a623bf579e7e121bc09dd37967e73bad02a05150ba196feed6682b507001fff9"), looks := true }, kinds := [], alts := [], laidByText := true, laidKinds := [.data, .data, .data, .data, .sentinel, .sentinel, .data, .pinned], laidTests := true, laidLooks := .later }
def MapfileValidCardSaid : Prop := Claim7.holds Tryz.pinned (.plain (OpenSpec.ofChange mapfileValidSpec)) mapfileValidCard

/-- THE TIED CARD OF 'skirmishlaw08.MapfileParses'. -/
def mapfileParsesCard : Claim7 := { stood := { row := mapfileParsesRow, standIns := [], harness := (true, "a623bf579e7e121bc09dd37967e73bad02a05150ba196feed6682b507001fff9"), looks := true }, kinds := [], alts := [], laidByText := true, laidKinds := [.data, .data, .data, .data, .sentinel, .sentinel, .data, .pinned], laidTests := true, laidLooks := .later }
def MapfileParsesCardSaid : Prop := Claim7.holds Tryz.pinned (.plain (OpenSpec.ofChange mapfileParsesSpec)) mapfileParsesCard

/-- THE TIED CARD OF 'skirmishlaw08.MapfileRoundTrips'. -/
def mapfileRoundTripsCard : Claim7 := { stood := { row := mapfileRoundTripsRow, standIns := [], harness := (true, "a623bf579e7e121bc09dd37967e73bad02a05150ba196feed6682b507001fff9"), looks := true }, kinds := [], alts := [], laidByText := true, laidKinds := [.data, .data, .data, .data, .sentinel, .sentinel, .data, .pinned], laidTests := true, laidLooks := .later }
def MapfileRoundTripsCardSaid : Prop := Claim7.holds Tryz.pinned (.plain (OpenSpec.ofChange mapfileRoundTripsSpec)) mapfileRoundTripsCard

/-- THE TIED CARD OF 'skirmishlaw08.MapfileMirrors'. -/
def mapfileMirrorsCard : Claim7 := { stood := { row := mapfileMirrorsRow, standIns := [], harness := (true, "a623bf579e7e121bc09dd37967e73bad02a05150ba196feed6682b507001fff9"), looks := true }, kinds := [], alts := [], laidByText := true, laidKinds := [.data, .data, .data, .data, .sentinel, .sentinel, .data, .pinned], laidTests := true, laidLooks := .later }
def MapfileMirrorsCardSaid : Prop := Claim7.holds Tryz.pinned (.plain (OpenSpec.ofChange mapfileMirrorsSpec)) mapfileMirrorsCard

/-- THE SECOND FORM's CARD OF 'skirmishlaw08.MapfileValid'. -/
def mapfileValidUptoCard : Claim7 := { stood := { row := mapfileValidUptoRow, standIns := [], harness := (true, "a623bf579e7e121bc09dd37967e73bad02a05150ba196feed6682b507001fff9"), looks := true }, kinds := [], alts := [], laidByText := true, laidKinds := [.data, .data, .data, .data, .sentinel, .sentinel, .data, .pinned], laidTests := true, laidLooks := .later }
def MapfileValidUptoCardSaid : Prop := Claim7.holds Tryz.pinned (.plain (OpenSpec.upto mapfileValidSpec)) mapfileValidUptoCard

/-- THE SECOND FORM's CARD OF 'skirmishlaw08.MapfileParses'. -/
def mapfileParsesUptoCard : Claim7 := { stood := { row := mapfileParsesUptoRow, standIns := [], harness := (true, "a623bf579e7e121bc09dd37967e73bad02a05150ba196feed6682b507001fff9"), looks := true }, kinds := [], alts := [], laidByText := true, laidKinds := [.data, .data, .data, .data, .sentinel, .sentinel, .data, .pinned], laidTests := true, laidLooks := .later }
def MapfileParsesUptoCardSaid : Prop := Claim7.holds Tryz.pinned (.plain (OpenSpec.upto mapfileParsesSpec)) mapfileParsesUptoCard

/-- THE SECOND FORM's CARD OF 'skirmishlaw08.MapfileRoundTrips'. -/
def mapfileRoundTripsUptoCard : Claim7 := { stood := { row := mapfileRoundTripsUptoRow, standIns := [], harness := (true, "a623bf579e7e121bc09dd37967e73bad02a05150ba196feed6682b507001fff9"), looks := true }, kinds := [], alts := [], laidByText := true, laidKinds := [.data, .data, .data, .data, .sentinel, .sentinel, .data, .pinned], laidTests := true, laidLooks := .later }
def MapfileRoundTripsUptoCardSaid : Prop := Claim7.holds Tryz.pinned (.plain (OpenSpec.upto mapfileRoundTripsSpec)) mapfileRoundTripsUptoCard

/-- THE SECOND FORM's CARD OF 'skirmishlaw08.MapfileMirrors'. -/
def mapfileMirrorsUptoCard : Claim7 := { stood := { row := mapfileMirrorsUptoRow, standIns := [], harness := (true, "a623bf579e7e121bc09dd37967e73bad02a05150ba196feed6682b507001fff9"), looks := true }, kinds := [], alts := [], laidByText := true, laidKinds := [.data, .data, .data, .data, .sentinel, .sentinel, .data, .pinned], laidTests := true, laidLooks := .later }
def MapfileMirrorsUptoCardSaid : Prop := Claim7.holds Tryz.pinned (.plain (OpenSpec.upto mapfileMirrorsSpec)) mapfileMirrorsUptoCard
end Rows
end Go.Proofs.YtmiceolkmiiahaaGreatDoor
