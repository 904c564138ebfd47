/-
  DERIVED. GIVEN WITH THE SEED: THE CARDS: each row of YtpknbdgmpfhcnaaGreatDoorRows.lean that lists a variable, with what it lists TIED to the program's text (the seventh form; the later family's looks); each row that meets fmt, with fmt's text TOLD by the authors' own Lean function (tested against real Go, not proved from fmt's source: count such statements apart). THE CARD IS WHAT COUNTS. Prove the row's statement (the work); the ties are given (YtpknbdgmpfhcnaaGreatDoorTie.lean); close each card by the builder's one call (the guide's Derived/Test/ToyasCard.lean, 'card_holds'). Laid BY PROGRAM, IN A SANDBOX (cutbox-door.mjs). By AI agents, Wed Nov 11 2026. No macro, syntax, notation, axiom, sorry.
-/
import Derived.Test.YtpknbdgmpfhcnaaGreatDoorRows
import GoSem.ClaimSeven
namespace Go.Proofs.YtpknbdgmpfhcnaaGreatDoor
namespace Rows

/-- THE TIED CARD OF 'foolscaplaw12.CodesReads'. -/
def codesReadsCard : Claim7 := { stood := { row := codesReadsRow, standIns := [], harness := (true, "9cbb15c4e9287299315aece80ef8b465f99319eef9772010cdc614a6b59668f6"), looks := true }, kinds := [], alts := [], laidByText := true, laidKinds := [.data, .data, .data, .data, .pinned], laidTests := true, laidLooks := .later }
def CodesReadsCardSaid : Prop := Claim7.holds Tryz.pinned (.plain (OpenSpec.ofChange codesReadsSpec)) codesReadsCard

/-- THE TIED CARD OF 'foolscaplaw12.CodesCommas'. -/
def codesCommasCard : Claim7 := { stood := { row := codesCommasRow, standIns := [], harness := (true, "9cbb15c4e9287299315aece80ef8b465f99319eef9772010cdc614a6b59668f6"), looks := true }, kinds := [], alts := [], laidByText := true, laidKinds := [.data, .data, .data, .data, .pinned], laidTests := true, laidLooks := .later }
def CodesCommasCardSaid : Prop := Claim7.holds Tryz.pinned (.plain (OpenSpec.ofChange codesCommasSpec)) codesCommasCard

/-- THE TIED CARD OF 'foolscaplaw12.CodesTexts'. -/
def codesTextsCard : Claim7 := { stood := { row := codesTextsRow, standIns := [], harness := (true, "9cbb15c4e9287299315aece80ef8b465f99319eef9772010cdc614a6b59668f6"), looks := true }, kinds := [], alts := [], laidByText := true, laidKinds := [.data, .data, .data, .data, .pinned], laidTests := true, laidLooks := .later }
def CodesTextsCardSaid : Prop := Claim7.holds Tryz.pinned (.plain (OpenSpec.ofChange codesTextsSpec)) codesTextsCard

/-- THE TIED CARD OF 'foolscaplaw12.CodesSigns'. -/
def codesSignsCard : Claim7 := { stood := { row := codesSignsRow, standIns := [], harness := (true, "9cbb15c4e9287299315aece80ef8b465f99319eef9772010cdc614a6b59668f6"), looks := true }, kinds := [], alts := [], laidByText := true, laidKinds := [.data, .data, .data, .data, .pinned], laidTests := true, laidLooks := .later }
def CodesSignsCardSaid : Prop := Claim7.holds Tryz.pinned (.plain (OpenSpec.ofChange codesSignsSpec)) codesSignsCard

/-- THE TIED CARD OF 'foolscaplaw12.CodesDigits'. -/
def codesDigitsCard : Claim7 := { stood := { row := codesDigitsRow, standIns := [], harness := (true, "9cbb15c4e9287299315aece80ef8b465f99319eef9772010cdc614a6b59668f6"), looks := true }, kinds := [], alts := [], laidByText := true, laidKinds := [.data, .data, .data, .data, .sentinel, .sentinel, .pinned], laidTests := true, laidLooks := .later }
def CodesDigitsCardSaid : Prop := Claim7.holds Tryz.pinned (.plain (OpenSpec.ofChange codesDigitsSpec)) codesDigitsCard

/-- THE SECOND FORM's CARD OF 'foolscaplaw12.CodesReads'. -/
def codesReadsUptoCard : Claim7 := { stood := { row := codesReadsUptoRow, standIns := [], harness := (true, "9cbb15c4e9287299315aece80ef8b465f99319eef9772010cdc614a6b59668f6"), looks := true }, kinds := [], alts := [], laidByText := true, laidKinds := [.data, .data, .data, .data, .pinned], laidTests := true, laidLooks := .later }
def CodesReadsUptoCardSaid : Prop := Claim7.holds Tryz.pinned (.plain (OpenSpec.upto codesReadsSpec)) codesReadsUptoCard

/-- THE SECOND FORM's CARD OF 'foolscaplaw12.CodesCommas'. -/
def codesCommasUptoCard : Claim7 := { stood := { row := codesCommasUptoRow, standIns := [], harness := (true, "9cbb15c4e9287299315aece80ef8b465f99319eef9772010cdc614a6b59668f6"), looks := true }, kinds := [], alts := [], laidByText := true, laidKinds := [.data, .data, .data, .data, .pinned], laidTests := true, laidLooks := .later }
def CodesCommasUptoCardSaid : Prop := Claim7.holds Tryz.pinned (.plain (OpenSpec.upto codesCommasSpec)) codesCommasUptoCard

/-- THE SECOND FORM's CARD OF 'foolscaplaw12.CodesTexts'. -/
def codesTextsUptoCard : Claim7 := { stood := { row := codesTextsUptoRow, standIns := [], harness := (true, "9cbb15c4e9287299315aece80ef8b465f99319eef9772010cdc614a6b59668f6"), looks := true }, kinds := [], alts := [], laidByText := true, laidKinds := [.data, .data, .data, .data, .pinned], laidTests := true, laidLooks := .later }
def CodesTextsUptoCardSaid : Prop := Claim7.holds Tryz.pinned (.plain (OpenSpec.upto codesTextsSpec)) codesTextsUptoCard

/-- THE SECOND FORM's CARD OF 'foolscaplaw12.CodesSigns'. -/
def codesSignsUptoCard : Claim7 := { stood := { row := codesSignsUptoRow, standIns := [], harness := (true, "9cbb15c4e9287299315aece80ef8b465f99319eef9772010cdc614a6b59668f6"), looks := true }, kinds := [], alts := [], laidByText := true, laidKinds := [.data, .data, .data, .data, .pinned], laidTests := true, laidLooks := .later }
def CodesSignsUptoCardSaid : Prop := Claim7.holds Tryz.pinned (.plain (OpenSpec.upto codesSignsSpec)) codesSignsUptoCard

/-- THE SECOND FORM's CARD OF 'foolscaplaw12.CodesDigits'. -/
def codesDigitsUptoCard : Claim7 := { stood := { row := codesDigitsUptoRow, standIns := [], harness := (true, "9cbb15c4e9287299315aece80ef8b465f99319eef9772010cdc614a6b59668f6"), looks := true }, kinds := [], alts := [], laidByText := true, laidKinds := [.data, .data, .data, .data, .sentinel, .sentinel, .pinned], laidTests := true, laidLooks := .later }
def CodesDigitsUptoCardSaid : Prop := Claim7.holds Tryz.pinned (.plain (OpenSpec.upto codesDigitsSpec)) codesDigitsUptoCard
end Rows
end Go.Proofs.YtpknbdgmpfhcnaaGreatDoor
