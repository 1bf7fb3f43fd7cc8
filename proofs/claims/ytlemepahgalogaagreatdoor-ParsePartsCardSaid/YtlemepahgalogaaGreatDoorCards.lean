/-
  DERIVED. GIVEN WITH THE SEED: THE CARDS: each row of YtlemepahgalogaaGreatDoorRows.lean that lists a variable, with what it lists TIED to the program's text (the seventh form; the later family's looks); each row that meets fmt, with fmt's text TOLD by the authors' own Lean function (tested against real Go, not proved from fmt's source: count such statements apart). THE CARD IS WHAT COUNTS. Prove the row's statement (the work); the ties are given (YtlemepahgalogaaGreatDoorTie.lean); close each card by the builder's one call (the guide's Derived/Test/ToyasCard.lean, 'card_holds'). Laid BY PROGRAM, IN A SANDBOX (cutbox-door.mjs). By AI agents, Wed Nov 11 2026. No macro, syntax, notation, axiom, sorry.
-/
import Derived.Test.YtlemepahgalogaaGreatDoorRows
import GoSem.ClaimSeven
namespace Go.Proofs.YtlemepahgalogaaGreatDoor
namespace Rows

/-- THE TIED CARD OF 'pedigreelaw13.ParsePrograms'. -/
def parseProgramsCard : Claim7 := { stood := { row := parseProgramsRow, standIns := [], harness := (true, "32fd6d9301810eb693cfa9ca128ebfca39730a26904c4c75fe14b6e6b97dafaf"), looks := true }, kinds := [], alts := [], laidByText := true, laidKinds := [.data, .data, .data, .sentinel, .sentinel, .data], laidTests := true, laidLooks := .later }
def ParseProgramsCardSaid : Prop := Claim7.holds Tryz.pinned (.plain (OpenSpec.ofChange parseProgramsSpec)) parseProgramsCard

/-- THE TIED CARD OF 'pedigreelaw13.ParseGaps'. -/
def parseGapsCard : Claim7 := { stood := { row := parseGapsRow, standIns := [], harness := (true, "32fd6d9301810eb693cfa9ca128ebfca39730a26904c4c75fe14b6e6b97dafaf"), looks := true }, kinds := [], alts := [], laidByText := true, laidKinds := [.data, .data, .data, .sentinel, .sentinel, .data], laidTests := true, laidLooks := .later }
def ParseGapsCardSaid : Prop := Claim7.holds Tryz.pinned (.plain (OpenSpec.ofChange parseGapsSpec)) parseGapsCard

/-- THE TIED CARD OF 'pedigreelaw13.ParseBehind'. -/
def parseBehindCard : Claim7 := { stood := { row := parseBehindRow, standIns := [], harness := (true, "32fd6d9301810eb693cfa9ca128ebfca39730a26904c4c75fe14b6e6b97dafaf"), looks := true }, kinds := [], alts := [], laidByText := true, laidKinds := [.data, .data, .data, .sentinel, .sentinel, .data], laidTests := true, laidLooks := .later }
def ParseBehindCardSaid : Prop := Claim7.holds Tryz.pinned (.plain (OpenSpec.ofChange parseBehindSpec)) parseBehindCard

/-- THE TIED CARD OF 'pedigreelaw13.ParseRules'. -/
def parseRulesCard : Claim7 := { stood := { row := parseRulesRow, standIns := [], harness := (true, "32fd6d9301810eb693cfa9ca128ebfca39730a26904c4c75fe14b6e6b97dafaf"), looks := true }, kinds := [], alts := [], laidByText := true, laidKinds := [.data, .data, .data, .sentinel, .sentinel, .data], laidTests := true, laidLooks := .later }
def ParseRulesCardSaid : Prop := Claim7.holds Tryz.pinned (.plain (OpenSpec.ofChange parseRulesSpec)) parseRulesCard

/-- THE TIED CARD OF 'pedigreelaw13.ParseParts'. -/
def parsePartsCard : Claim7 := { stood := { row := parsePartsRow, standIns := [], harness := (true, "32fd6d9301810eb693cfa9ca128ebfca39730a26904c4c75fe14b6e6b97dafaf"), looks := true }, kinds := [], alts := [], laidByText := true, laidKinds := [.data, .data, .data, .sentinel, .sentinel, .data], laidTests := true, laidLooks := .later }
def ParsePartsCardSaid : Prop := Claim7.holds Tryz.pinned (.plain (OpenSpec.ofChange parsePartsSpec)) parsePartsCard

/-- THE TIED CARD OF 'pedigreelaw13.ParseSames'. -/
def parseSamesCard : Claim7 := { stood := { row := parseSamesRow, standIns := [], harness := (true, "32fd6d9301810eb693cfa9ca128ebfca39730a26904c4c75fe14b6e6b97dafaf"), looks := true }, kinds := [], alts := [], laidByText := true, laidKinds := [.data, .data, .data, .sentinel, .sentinel, .data], laidTests := true, laidLooks := .later }
def ParseSamesCardSaid : Prop := Claim7.holds Tryz.pinned (.plain (OpenSpec.ofChange parseSamesSpec)) parseSamesCard

/-- THE TIED CARD OF 'pedigreelaw14.PrintBack'. -/
def printBackCard : Claim7 := { stood := { row := printBackRow, standIns := [], harness := (true, "32fd6d9301810eb693cfa9ca128ebfca39730a26904c4c75fe14b6e6b97dafaf"), looks := true }, kinds := [], alts := [], laidByText := true, laidKinds := [.data, .data, .data, .sentinel, .sentinel, .data], laidTests := true, laidLooks := .later }
def PrintBackCardSaid : Prop := Claim7.holds Tryz.pinned (.plain (OpenSpec.ofChange printBackSpec)) printBackCard

/-- THE SECOND FORM's CARD OF 'pedigreelaw13.ParsePrograms'. -/
def parseProgramsUptoCard : Claim7 := { stood := { row := parseProgramsUptoRow, standIns := [], harness := (true, "32fd6d9301810eb693cfa9ca128ebfca39730a26904c4c75fe14b6e6b97dafaf"), looks := true }, kinds := [], alts := [], laidByText := true, laidKinds := [.data, .data, .data, .sentinel, .sentinel, .data], laidTests := true, laidLooks := .later }
def ParseProgramsUptoCardSaid : Prop := Claim7.holds Tryz.pinned (.plain (OpenSpec.upto parseProgramsSpec)) parseProgramsUptoCard

/-- THE SECOND FORM's CARD OF 'pedigreelaw13.ParseGaps'. -/
def parseGapsUptoCard : Claim7 := { stood := { row := parseGapsUptoRow, standIns := [], harness := (true, "32fd6d9301810eb693cfa9ca128ebfca39730a26904c4c75fe14b6e6b97dafaf"), looks := true }, kinds := [], alts := [], laidByText := true, laidKinds := [.data, .data, .data, .sentinel, .sentinel, .data], laidTests := true, laidLooks := .later }
def ParseGapsUptoCardSaid : Prop := Claim7.holds Tryz.pinned (.plain (OpenSpec.upto parseGapsSpec)) parseGapsUptoCard

/-- THE SECOND FORM's CARD OF 'pedigreelaw13.ParseBehind'. -/
def parseBehindUptoCard : Claim7 := { stood := { row := parseBehindUptoRow, standIns := [], harness := (true, "32fd6d9301810eb693cfa9ca128ebfca39730a26904c4c75fe14b6e6b97dafaf"), looks := true }, kinds := [], alts := [], laidByText := true, laidKinds := [.data, .data, .data, .sentinel, .sentinel, .data], laidTests := true, laidLooks := .later }
def ParseBehindUptoCardSaid : Prop := Claim7.holds Tryz.pinned (.plain (OpenSpec.upto parseBehindSpec)) parseBehindUptoCard

/-- THE SECOND FORM's CARD OF 'pedigreelaw13.ParseRules'. -/
def parseRulesUptoCard : Claim7 := { stood := { row := parseRulesUptoRow, standIns := [], harness := (true, "32fd6d9301810eb693cfa9ca128ebfca39730a26904c4c75fe14b6e6b97dafaf"), looks := true }, kinds := [], alts := [], laidByText := true, laidKinds := [.data, .data, .data, .sentinel, .sentinel, .data], laidTests := true, laidLooks := .later }
def ParseRulesUptoCardSaid : Prop := Claim7.holds Tryz.pinned (.plain (OpenSpec.upto parseRulesSpec)) parseRulesUptoCard

/-- THE SECOND FORM's CARD OF 'pedigreelaw13.ParseParts'. -/
def parsePartsUptoCard : Claim7 := { stood := { row := parsePartsUptoRow, standIns := [], harness := (true, "32fd6d9301810eb693cfa9ca128ebfca39730a26904c4c75fe14b6e6b97dafaf"), looks := true }, kinds := [], alts := [], laidByText := true, laidKinds := [.data, .data, .data, .sentinel, .sentinel, .data], laidTests := true, laidLooks := .later }
def ParsePartsUptoCardSaid : Prop := Claim7.holds Tryz.pinned (.plain (OpenSpec.upto parsePartsSpec)) parsePartsUptoCard

/-- THE SECOND FORM's CARD OF 'pedigreelaw13.ParseSames'. -/
def parseSamesUptoCard : Claim7 := { stood := { row := parseSamesUptoRow, standIns := [], harness := (true, "32fd6d9301810eb693cfa9ca128ebfca39730a26904c4c75fe14b6e6b97dafaf"), looks := true }, kinds := [], alts := [], laidByText := true, laidKinds := [.data, .data, .data, .sentinel, .sentinel, .data], laidTests := true, laidLooks := .later }
def ParseSamesUptoCardSaid : Prop := Claim7.holds Tryz.pinned (.plain (OpenSpec.upto parseSamesSpec)) parseSamesUptoCard

/-- THE SECOND FORM's CARD OF 'pedigreelaw14.PrintBack'. -/
def printBackUptoCard : Claim7 := { stood := { row := printBackUptoRow, standIns := [], harness := (true, "32fd6d9301810eb693cfa9ca128ebfca39730a26904c4c75fe14b6e6b97dafaf"), looks := true }, kinds := [], alts := [], laidByText := true, laidKinds := [.data, .data, .data, .sentinel, .sentinel, .data], laidTests := true, laidLooks := .later }
def PrintBackUptoCardSaid : Prop := Claim7.holds Tryz.pinned (.plain (OpenSpec.upto printBackSpec)) printBackUptoCard
end Rows
end Go.Proofs.YtlemepahgalogaaGreatDoor
