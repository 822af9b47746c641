/-
  DERIVED. GIVEN WITH THE SEED: THE CARDS: each row of YthempdleolefnaaDoorRows.lean that lists a variable, with what it lists TIED to the program's text (the seventh form; the later family's looks); each row that meets fmt, with fmt's text TOLD by the authors' own Lean function (tested against real Go, not proved from fmt's source: count such statements apart). THE CARD IS WHAT COUNTS. Prove the row's statement (the work); the ties are given (YthempdleolefnaaDoorTie.lean); close each card by the builder's one call (the guide's Derived/Test/ToyasCard.lean, 'card_holds'). Laid BY PROGRAM, IN A SANDBOX (cutbox-door.mjs). By AI agents, Wed Nov 11 2026. No macro, syntax, notation, axiom, sorry.
-/
import Derived.Test.YthempdleolefnaaDoorRows
import GoSem.ClaimSeven
namespace Go.Proofs.YthempdleolefnaaDoor
namespace Rows

/-- THE TIED CARD OF 'laws.FnExactDecodeHex'. -/
def fnExactDecodeHexCard : Claim7 := { stood := { row := fnExactDecodeHexRow, standIns := [], harness := (true, "a95aa451d4c4d5adf2adec571e8b67b5c86065181967d9c3427887b35bac2d00"), looks := true }, kinds := [], alts := [], laidByText := true, laidKinds := [.sentinel], laidTests := true, laidLooks := .later }
def FnExactDecodeHexCardSaid : Prop := Claim7.holds Tryd.pinned (.plain (OpenSpec.ofChange fnExactDecodeHexSpec)) fnExactDecodeHexCard

/-- THE TIED CARD OF 'laws.FnExactFormatInt'. -/
def fnExactFormatIntCard : Claim7 := { stood := { row := fnExactFormatIntRow, standIns := [], harness := (true, "a95aa451d4c4d5adf2adec571e8b67b5c86065181967d9c3427887b35bac2d00"), looks := true }, kinds := [], alts := [], laidByText := true, laidKinds := [.data, .data, .data], laidTests := true, laidLooks := .later }
def FnExactFormatIntCardSaid : Prop := Claim7.holds Tryd.pinned (.plain (OpenSpec.ofChange fnExactFormatIntSpec)) fnExactFormatIntCard

/-- THE TIED CARD OF 'laws.FnExactParseInt'. -/
def fnExactParseIntCard : Claim7 := { stood := { row := fnExactParseIntRow, standIns := [], harness := (true, "a95aa451d4c4d5adf2adec571e8b67b5c86065181967d9c3427887b35bac2d00"), looks := true }, kinds := [], alts := [], laidByText := true, laidKinds := [.data, .data, .data, .sentinel, .sentinel], laidTests := true, laidLooks := .later }
def FnExactParseIntCardSaid : Prop := Claim7.holds Tryd.pinned (.plain (OpenSpec.ofChange fnExactParseIntSpec)) fnExactParseIntCard

/-- THE TIED CARD OF 'laws.FnIntegerEncodings'. -/
def fnIntegerEncodingsCard : Claim7 := { stood := { row := fnIntegerEncodingsRow, standIns := [], harness := (true, "a95aa451d4c4d5adf2adec571e8b67b5c86065181967d9c3427887b35bac2d00"), looks := true }, kinds := [], alts := [], laidByText := true, laidKinds := [.data, .data, .data, .sentinel, .sentinel, .sentinel], laidTests := true, laidLooks := .later }
def FnIntegerEncodingsCardSaid : Prop := Claim7.holds Tryd.pinned (.plain (OpenSpec.ofChange fnIntegerEncodingsSpec)) fnIntegerEncodingsCard

/-- THE SECOND FORM's CARD OF 'laws.FnExactDecodeHex'. -/
def fnExactDecodeHexUptoCard : Claim7 := { stood := { row := fnExactDecodeHexUptoRow, standIns := [], harness := (true, "a95aa451d4c4d5adf2adec571e8b67b5c86065181967d9c3427887b35bac2d00"), looks := true }, kinds := [], alts := [], laidByText := true, laidKinds := [.sentinel], laidTests := true, laidLooks := .later }
def FnExactDecodeHexUptoCardSaid : Prop := Claim7.holds Tryd.pinned (.plain (OpenSpec.upto fnExactDecodeHexSpec)) fnExactDecodeHexUptoCard

/-- THE SECOND FORM's CARD OF 'laws.FnExactFormatInt'. -/
def fnExactFormatIntUptoCard : Claim7 := { stood := { row := fnExactFormatIntUptoRow, standIns := [], harness := (true, "a95aa451d4c4d5adf2adec571e8b67b5c86065181967d9c3427887b35bac2d00"), looks := true }, kinds := [], alts := [], laidByText := true, laidKinds := [.data, .data, .data], laidTests := true, laidLooks := .later }
def FnExactFormatIntUptoCardSaid : Prop := Claim7.holds Tryd.pinned (.plain (OpenSpec.upto fnExactFormatIntSpec)) fnExactFormatIntUptoCard

/-- THE SECOND FORM's CARD OF 'laws.FnExactParseInt'. -/
def fnExactParseIntUptoCard : Claim7 := { stood := { row := fnExactParseIntUptoRow, standIns := [], harness := (true, "a95aa451d4c4d5adf2adec571e8b67b5c86065181967d9c3427887b35bac2d00"), looks := true }, kinds := [], alts := [], laidByText := true, laidKinds := [.data, .data, .data, .sentinel, .sentinel], laidTests := true, laidLooks := .later }
def FnExactParseIntUptoCardSaid : Prop := Claim7.holds Tryd.pinned (.plain (OpenSpec.upto fnExactParseIntSpec)) fnExactParseIntUptoCard

/-- THE SECOND FORM's CARD OF 'laws.FnIntegerEncodings'. -/
def fnIntegerEncodingsUptoCard : Claim7 := { stood := { row := fnIntegerEncodingsUptoRow, standIns := [], harness := (true, "a95aa451d4c4d5adf2adec571e8b67b5c86065181967d9c3427887b35bac2d00"), looks := true }, kinds := [], alts := [], laidByText := true, laidKinds := [.data, .data, .data, .sentinel, .sentinel, .sentinel], laidTests := true, laidLooks := .later }
def FnIntegerEncodingsUptoCardSaid : Prop := Claim7.holds Tryd.pinned (.plain (OpenSpec.upto fnIntegerEncodingsSpec)) fnIntegerEncodingsUptoCard
end Rows
end Go.Proofs.YthempdleolefnaaDoor
