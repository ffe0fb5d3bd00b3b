/-
  DERIVED. GIVEN WITH THE SEED: THE CARDS: each row of YtnhgejmdcfpeaaaDoorRows.lean that lists a variable, with what it lists TIED to the program's text (the seventh form; the later family's looks); each row that meets fmt, with fmt's text TOLD by the authors' own Lean function (tested against real Go, not proved from fmt's source: count such statements apart). THE CARD IS WHAT COUNTS. Prove the row's statement (the work); the ties are given (YtnhgejmdcfpeaaaDoorTie.lean); close each card by the builder's one call (the guide's Derived/Test/ToyasCard.lean, 'card_holds'). Laid BY PROGRAM, IN A SANDBOX (cutbox-door.mjs). By AI agents, Wed Nov 11 2026. No macro, syntax, notation, axiom, sorry.
-/
import Derived.Test.YtnhgejmdcfpeaaaDoorRows
import GoSem.ClaimSeven
namespace Go.Proofs.YtnhgejmdcfpeaaaDoor
namespace Rows

/-- THE TIED CARD OF 'skirmishlaw05.DigestTexts'. -/
def digestTextsCard : Claim7 := { stood := { row := digestTextsRow, standIns := [], harness := (true, "884ce31e4353128180a83014fc9f2c6c734109a0e5f66f5da5d748f73fc497d6"), looks := true }, kinds := [], alts := [], laidByText := true, laidKinds := [.data, .data, .data], laidTests := true, laidLooks := .later }
def DigestTextsCardSaid : Prop := Claim7.holds Tryd.pinned (.plain (OpenSpec.ofChange digestTextsSpec)) digestTextsCard

/-- THE TIED CARD OF 'skirmishlaw05.DigestExtends'. -/
def digestExtendsCard : Claim7 := { stood := { row := digestExtendsRow, standIns := [], harness := (true, "884ce31e4353128180a83014fc9f2c6c734109a0e5f66f5da5d748f73fc497d6"), looks := true }, kinds := [], alts := [], laidByText := true, laidKinds := [.data, .data, .data], laidTests := true, laidLooks := .later }
def DigestExtendsCardSaid : Prop := Claim7.holds Tryd.pinned (.plain (OpenSpec.ofChange digestExtendsSpec)) digestExtendsCard

/-- THE TIED CARD OF 'skirmishlaw05.DigestBytes'. -/
def digestBytesCard : Claim7 := { stood := { row := digestBytesRow, standIns := [], harness := (true, "884ce31e4353128180a83014fc9f2c6c734109a0e5f66f5da5d748f73fc497d6"), looks := true }, kinds := [], alts := [], laidByText := true, laidKinds := [.data, .data, .data], laidTests := true, laidLooks := .later }
def DigestBytesCardSaid : Prop := Claim7.holds Tryd.pinned (.plain (OpenSpec.ofChange digestBytesSpec)) digestBytesCard

/-- THE TIED CARD OF 'skirmishlaw05.DigestMixes'. -/
def digestMixesCard : Claim7 := { stood := { row := digestMixesRow, standIns := [], harness := (true, "884ce31e4353128180a83014fc9f2c6c734109a0e5f66f5da5d748f73fc497d6"), looks := true }, kinds := [], alts := [], laidByText := true, laidKinds := [.data, .data, .data], laidTests := true, laidLooks := .later }
def DigestMixesCardSaid : Prop := Claim7.holds Tryd.pinned (.plain (OpenSpec.ofChange digestMixesSpec)) digestMixesCard

/-- THE TIED CARD OF 'skirmishlaw05.DigestHex'. -/
def digestHexCard : Claim7 := { stood := { row := digestHexRow, standIns := [], harness := (true, "884ce31e4353128180a83014fc9f2c6c734109a0e5f66f5da5d748f73fc497d6"), looks := true }, kinds := [], alts := [], laidByText := true, laidKinds := [.data, .data, .data, .sentinel, .sentinel], laidTests := true, laidLooks := .later }
def DigestHexCardSaid : Prop := Claim7.holds Tryd.pinned (.plain (OpenSpec.ofChange digestHexSpec)) digestHexCard

/-- THE TIED CARD OF 'skirmishlaw05.DigestUnhex'. -/
def digestUnhexCard : Claim7 := { stood := { row := digestUnhexRow, standIns := [], harness := (true, "884ce31e4353128180a83014fc9f2c6c734109a0e5f66f5da5d748f73fc497d6"), looks := true }, kinds := [], alts := [], laidByText := true, laidKinds := [.data, .data, .data, .sentinel, .sentinel], laidTests := true, laidLooks := .later }
def DigestUnhexCardSaid : Prop := Claim7.holds Tryd.pinned (.plain (OpenSpec.ofChange digestUnhexSpec)) digestUnhexCard

/-- THE SECOND FORM's CARD OF 'skirmishlaw05.DigestTexts'. -/
def digestTextsUptoCard : Claim7 := { stood := { row := digestTextsUptoRow, standIns := [], harness := (true, "884ce31e4353128180a83014fc9f2c6c734109a0e5f66f5da5d748f73fc497d6"), looks := true }, kinds := [], alts := [], laidByText := true, laidKinds := [.data, .data, .data], laidTests := true, laidLooks := .later }
def DigestTextsUptoCardSaid : Prop := Claim7.holds Tryd.pinned (.plain (OpenSpec.upto digestTextsSpec)) digestTextsUptoCard

/-- THE SECOND FORM's CARD OF 'skirmishlaw05.DigestExtends'. -/
def digestExtendsUptoCard : Claim7 := { stood := { row := digestExtendsUptoRow, standIns := [], harness := (true, "884ce31e4353128180a83014fc9f2c6c734109a0e5f66f5da5d748f73fc497d6"), looks := true }, kinds := [], alts := [], laidByText := true, laidKinds := [.data, .data, .data], laidTests := true, laidLooks := .later }
def DigestExtendsUptoCardSaid : Prop := Claim7.holds Tryd.pinned (.plain (OpenSpec.upto digestExtendsSpec)) digestExtendsUptoCard

/-- THE SECOND FORM's CARD OF 'skirmishlaw05.DigestBytes'. -/
def digestBytesUptoCard : Claim7 := { stood := { row := digestBytesUptoRow, standIns := [], harness := (true, "884ce31e4353128180a83014fc9f2c6c734109a0e5f66f5da5d748f73fc497d6"), looks := true }, kinds := [], alts := [], laidByText := true, laidKinds := [.data, .data, .data], laidTests := true, laidLooks := .later }
def DigestBytesUptoCardSaid : Prop := Claim7.holds Tryd.pinned (.plain (OpenSpec.upto digestBytesSpec)) digestBytesUptoCard

/-- THE SECOND FORM's CARD OF 'skirmishlaw05.DigestMixes'. -/
def digestMixesUptoCard : Claim7 := { stood := { row := digestMixesUptoRow, standIns := [], harness := (true, "884ce31e4353128180a83014fc9f2c6c734109a0e5f66f5da5d748f73fc497d6"), looks := true }, kinds := [], alts := [], laidByText := true, laidKinds := [.data, .data, .data], laidTests := true, laidLooks := .later }
def DigestMixesUptoCardSaid : Prop := Claim7.holds Tryd.pinned (.plain (OpenSpec.upto digestMixesSpec)) digestMixesUptoCard

/-- THE SECOND FORM's CARD OF 'skirmishlaw05.DigestHex'. -/
def digestHexUptoCard : Claim7 := { stood := { row := digestHexUptoRow, standIns := [], harness := (true, "884ce31e4353128180a83014fc9f2c6c734109a0e5f66f5da5d748f73fc497d6"), looks := true }, kinds := [], alts := [], laidByText := true, laidKinds := [.data, .data, .data, .sentinel, .sentinel], laidTests := true, laidLooks := .later }
def DigestHexUptoCardSaid : Prop := Claim7.holds Tryd.pinned (.plain (OpenSpec.upto digestHexSpec)) digestHexUptoCard

/-- THE SECOND FORM's CARD OF 'skirmishlaw05.DigestUnhex'. -/
def digestUnhexUptoCard : Claim7 := { stood := { row := digestUnhexUptoRow, standIns := [], harness := (true, "884ce31e4353128180a83014fc9f2c6c734109a0e5f66f5da5d748f73fc497d6"), looks := true }, kinds := [], alts := [], laidByText := true, laidKinds := [.data, .data, .data, .sentinel, .sentinel], laidTests := true, laidLooks := .later }
def DigestUnhexUptoCardSaid : Prop := Claim7.holds Tryd.pinned (.plain (OpenSpec.upto digestUnhexSpec)) digestUnhexUptoCard
end Rows
end Go.Proofs.YtnhgejmdcfpeaaaDoor
