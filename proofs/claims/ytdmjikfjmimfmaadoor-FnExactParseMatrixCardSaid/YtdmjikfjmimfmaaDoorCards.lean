/-
  DERIVED. GIVEN WITH THE SEED: THE CARDS: each row of YtdmjikfjmimfmaaDoorRows.lean that lists a variable, with what it lists TIED to the program's text (the seventh form; the later family's looks); each row that meets fmt, with fmt's text TOLD by the authors' own Lean function (tested against real Go, not proved from fmt's source: count such statements apart). THE CARD IS WHAT COUNTS. Prove the row's statement (the work); the ties are given (YtdmjikfjmimfmaaDoorTie.lean); close each card by the builder's one call (the guide's Derived/Test/ToyasCard.lean, 'card_holds'). Laid BY PROGRAM, IN A SANDBOX (cutbox-door.mjs). By AI agents, Wed Nov 11 2026. No macro, syntax, notation, axiom, sorry.
-/
import Derived.Test.YtdmjikfjmimfmaaDoorRows
import GoSem.ClaimSeven
namespace Go.Proofs.YtdmjikfjmimfmaaDoor
namespace Rows

/-- THE TIED CARD OF 'laws.FnExactFormatPath'. -/
def fnExactFormatPathCard : Claim7 := { stood := { row := fnExactFormatPathRow, standIns := [], harness := (true, "716e4d6b0a033df549f8f87fb6ffcc6de6262bc70ef4180a6996ddc21d76bc74"), looks := true }, kinds := [], alts := [], laidByText := true, laidKinds := [.data, .data, .data], laidTests := true, laidLooks := .later }
def FnExactFormatPathCardSaid : Prop := Claim7.holds Tryd.pinned (.plain (OpenSpec.ofChange fnExactFormatPathSpec)) fnExactFormatPathCard

/-- THE TIED CARD OF 'laws.FnExactFormatQuiver'. -/
def fnExactFormatQuiverCard : Claim7 := { stood := { row := fnExactFormatQuiverRow, standIns := [], harness := (true, "716e4d6b0a033df549f8f87fb6ffcc6de6262bc70ef4180a6996ddc21d76bc74"), looks := true }, kinds := [], alts := [], laidByText := true, laidKinds := [.data, .data, .data], laidTests := true, laidLooks := .later }
def FnExactFormatQuiverCardSaid : Prop := Claim7.holds Tryd.pinned (.plain (OpenSpec.ofChange fnExactFormatQuiverSpec)) fnExactFormatQuiverCard

/-- THE TIED CARD OF 'laws.FnExactFormatMatrix'. -/
def fnExactFormatMatrixCard : Claim7 := { stood := { row := fnExactFormatMatrixRow, standIns := [], harness := (true, "716e4d6b0a033df549f8f87fb6ffcc6de6262bc70ef4180a6996ddc21d76bc74"), looks := true }, kinds := [], alts := [], laidByText := true, laidKinds := [.data, .data, .data], laidTests := true, laidLooks := .later }
def FnExactFormatMatrixCardSaid : Prop := Claim7.holds Tryd.pinned (.plain (OpenSpec.ofChange fnExactFormatMatrixSpec)) fnExactFormatMatrixCard

/-- THE TIED CARD OF 'laws.FnExactParseQuiver'. -/
def fnExactParseQuiverCard : Claim7 := { stood := { row := fnExactParseQuiverRow, standIns := [], harness := (true, "716e4d6b0a033df549f8f87fb6ffcc6de6262bc70ef4180a6996ddc21d76bc74"), looks := true }, kinds := [], alts := [], laidByText := true, laidKinds := [.data, .data, .data], laidTests := true, laidLooks := .later }
def FnExactParseQuiverCardSaid : Prop := Claim7.holds Tryd.pinned (.plain (OpenSpec.ofChange fnExactParseQuiverSpec)) fnExactParseQuiverCard

/-- THE TIED CARD OF 'laws.FnExactNamedQuiver'. -/
def fnExactNamedQuiverCard : Claim7 := { stood := { row := fnExactNamedQuiverRow, standIns := [], harness := (true, "716e4d6b0a033df549f8f87fb6ffcc6de6262bc70ef4180a6996ddc21d76bc74"), looks := true }, kinds := [], alts := [], laidByText := true, laidKinds := [.data, .data, .data], laidTests := true, laidLooks := .later }
def FnExactNamedQuiverCardSaid : Prop := Claim7.holds Tryd.pinned (.plain (OpenSpec.ofChange fnExactNamedQuiverSpec)) fnExactNamedQuiverCard

/-- THE TIED CARD OF 'laws.FnExactParseMatrix'. -/
def fnExactParseMatrixCard : Claim7 := { stood := { row := fnExactParseMatrixRow, standIns := [], harness := (true, "716e4d6b0a033df549f8f87fb6ffcc6de6262bc70ef4180a6996ddc21d76bc74"), looks := true }, kinds := [], alts := [], laidByText := true, laidKinds := [.data, .data, .data, .sentinel, .sentinel], laidTests := true, laidLooks := .later }
def FnExactParseMatrixCardSaid : Prop := Claim7.holds Tryd.pinned (.plain (OpenSpec.ofChange fnExactParseMatrixSpec)) fnExactParseMatrixCard

/-- THE SECOND FORM's CARD OF 'laws.FnExactFormatPath'. -/
def fnExactFormatPathUptoCard : Claim7 := { stood := { row := fnExactFormatPathUptoRow, standIns := [], harness := (true, "716e4d6b0a033df549f8f87fb6ffcc6de6262bc70ef4180a6996ddc21d76bc74"), looks := true }, kinds := [], alts := [], laidByText := true, laidKinds := [.data, .data, .data], laidTests := true, laidLooks := .later }
def FnExactFormatPathUptoCardSaid : Prop := Claim7.holds Tryd.pinned (.plain (OpenSpec.upto fnExactFormatPathSpec)) fnExactFormatPathUptoCard

/-- THE SECOND FORM's CARD OF 'laws.FnExactFormatQuiver'. -/
def fnExactFormatQuiverUptoCard : Claim7 := { stood := { row := fnExactFormatQuiverUptoRow, standIns := [], harness := (true, "716e4d6b0a033df549f8f87fb6ffcc6de6262bc70ef4180a6996ddc21d76bc74"), looks := true }, kinds := [], alts := [], laidByText := true, laidKinds := [.data, .data, .data], laidTests := true, laidLooks := .later }
def FnExactFormatQuiverUptoCardSaid : Prop := Claim7.holds Tryd.pinned (.plain (OpenSpec.upto fnExactFormatQuiverSpec)) fnExactFormatQuiverUptoCard

/-- THE SECOND FORM's CARD OF 'laws.FnExactFormatMatrix'. -/
def fnExactFormatMatrixUptoCard : Claim7 := { stood := { row := fnExactFormatMatrixUptoRow, standIns := [], harness := (true, "716e4d6b0a033df549f8f87fb6ffcc6de6262bc70ef4180a6996ddc21d76bc74"), looks := true }, kinds := [], alts := [], laidByText := true, laidKinds := [.data, .data, .data], laidTests := true, laidLooks := .later }
def FnExactFormatMatrixUptoCardSaid : Prop := Claim7.holds Tryd.pinned (.plain (OpenSpec.upto fnExactFormatMatrixSpec)) fnExactFormatMatrixUptoCard

/-- THE SECOND FORM's CARD OF 'laws.FnExactParseQuiver'. -/
def fnExactParseQuiverUptoCard : Claim7 := { stood := { row := fnExactParseQuiverUptoRow, standIns := [], harness := (true, "716e4d6b0a033df549f8f87fb6ffcc6de6262bc70ef4180a6996ddc21d76bc74"), looks := true }, kinds := [], alts := [], laidByText := true, laidKinds := [.data, .data, .data], laidTests := true, laidLooks := .later }
def FnExactParseQuiverUptoCardSaid : Prop := Claim7.holds Tryd.pinned (.plain (OpenSpec.upto fnExactParseQuiverSpec)) fnExactParseQuiverUptoCard

/-- THE SECOND FORM's CARD OF 'laws.FnExactNamedQuiver'. -/
def fnExactNamedQuiverUptoCard : Claim7 := { stood := { row := fnExactNamedQuiverUptoRow, standIns := [], harness := (true, "716e4d6b0a033df549f8f87fb6ffcc6de6262bc70ef4180a6996ddc21d76bc74"), looks := true }, kinds := [], alts := [], laidByText := true, laidKinds := [.data, .data, .data], laidTests := true, laidLooks := .later }
def FnExactNamedQuiverUptoCardSaid : Prop := Claim7.holds Tryd.pinned (.plain (OpenSpec.upto fnExactNamedQuiverSpec)) fnExactNamedQuiverUptoCard

/-- THE SECOND FORM's CARD OF 'laws.FnExactParseMatrix'. -/
def fnExactParseMatrixUptoCard : Claim7 := { stood := { row := fnExactParseMatrixUptoRow, standIns := [], harness := (true, "716e4d6b0a033df549f8f87fb6ffcc6de6262bc70ef4180a6996ddc21d76bc74"), looks := true }, kinds := [], alts := [], laidByText := true, laidKinds := [.data, .data, .data, .sentinel, .sentinel], laidTests := true, laidLooks := .later }
def FnExactParseMatrixUptoCardSaid : Prop := Claim7.holds Tryd.pinned (.plain (OpenSpec.upto fnExactParseMatrixSpec)) fnExactParseMatrixUptoCard
end Rows
end Go.Proofs.YtdmjikfjmimfmaaDoor
