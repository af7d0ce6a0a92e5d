/-
  DERIVED. GIVEN WITH THE SEED: THE CARDS: each row of YtobpkelblpdajaaGreatDoorRows.lean that lists a variable, with what it lists TIED to the program's text (the seventh form; the later family's looks); each row that meets fmt, with fmt's text TOLD by the authors' own Lean function (tested against real Go, not proved from fmt's source: count such statements apart). THE CARD IS WHAT COUNTS. Prove the row's statement (the work); the ties are given (YtobpkelblpdajaaGreatDoorTie.lean); close each card by the builder's one call (the guide's Derived/Test/ToyasCard.lean, 'card_holds'). Laid BY PROGRAM, IN A SANDBOX (cutbox-door.mjs). By AI agents, Wed Nov 11 2026. No macro, syntax, notation, axiom, sorry.
-/
import Derived.Test.YtobpkelblpdajaaGreatDoorRows
import GoSem.ClaimSeven
namespace Go.Proofs.YtobpkelblpdajaaGreatDoor
namespace Rows

/-- THE TIED CARD OF 'tenontop.TopNil'. -/
def topNilCard : Claim7 := { stood := { row := topNilRow, standIns := [], harness := (true, "1e7af884c82236b1f819144138f9f70fb0ce697dc9e161157c72eaba5b7c3a2f"), looks := true }, kinds := [], alts := [], laidByText := true, laidKinds := [.data, .data, .data, .data, .data, .widerDeep, .widerDeep, .pinned, .pinned], laidTests := true, laidLooks := .later }
def TopNilCardSaid : Prop := Claim7.holds Tryz.pinned (.plain (OpenSpec.ofChange topNilSpec)) topNilCard

/-- THE TIED CARD OF 'tenonlaw02.TextLines'. -/
def textLinesCard : Claim7 := { stood := { row := textLinesRow, standIns := [], harness := (true, "1e7af884c82236b1f819144138f9f70fb0ce697dc9e161157c72eaba5b7c3a2f"), looks := true }, kinds := [], alts := [], laidByText := true, laidKinds := [.data, .data, .widerDeep, .widerDeep, .data, .data, .data, .data, .data, .sentinel, .sentinel, .data, .pinned, .pinned], laidTests := true, laidLooks := .later }
def TextLinesCardSaid : Prop := Claim7.holds Tryz.pinned (.plain (OpenSpec.ofChange textLinesSpec)) textLinesCard

/-- THE TIED CARD OF 'tenonlaw02.TextPrints'. -/
def textPrintsCard : Claim7 := { stood := { row := textPrintsRow, standIns := [], harness := (true, "1e7af884c82236b1f819144138f9f70fb0ce697dc9e161157c72eaba5b7c3a2f"), looks := true }, kinds := [], alts := [], laidByText := true, laidKinds := [.data, .data, .data, .data, .data, .pinned, .pinned], laidTests := true, laidLooks := .later }
def TextPrintsCardSaid : Prop := Claim7.holds Tryz.pinned (.plain (OpenSpec.ofChange textPrintsSpec)) textPrintsCard

/-- THE TIED CARD OF 'tenonlaw02.TextFloats'. -/
def textFloatsCard : Claim7 := { stood := { row := textFloatsRow, standIns := [], harness := (true, "1e7af884c82236b1f819144138f9f70fb0ce697dc9e161157c72eaba5b7c3a2f"), looks := true }, kinds := [], alts := [], laidByText := true, laidKinds := [.data, .data, .widerDeep, .widerDeep, .data, .data, .data, .data, .data, .sentinel, .sentinel, .data, .pinned, .pinned], laidTests := true, laidLooks := .later }
def TextFloatsCardSaid : Prop := Claim7.holds Tryz.pinned (.plain (OpenSpec.ofChange textFloatsSpec)) textFloatsCard

/-- THE TIED CARD OF 'tenonlaw02.TextBack'. -/
def textBackCard : Claim7 := { stood := { row := textBackRow, standIns := [], harness := (true, "1e7af884c82236b1f819144138f9f70fb0ce697dc9e161157c72eaba5b7c3a2f"), looks := true }, kinds := [], alts := [], laidByText := true, laidKinds := [.data, .data, .widerDeep, .widerDeep, .data, .data, .data, .data, .data, .sentinel, .sentinel, .data, .pinned, .pinned], laidTests := true, laidLooks := .later }
def TextBackCardSaid : Prop := Claim7.holds Tryz.pinned (.plain (OpenSpec.ofChange textBackSpec)) textBackCard

/-- THE TIED CARD OF 'tenonlaw02.TextOne'. -/
def textOneCard : Claim7 := { stood := { row := textOneRow, standIns := [], harness := (true, "1e7af884c82236b1f819144138f9f70fb0ce697dc9e161157c72eaba5b7c3a2f"), looks := true }, kinds := [], alts := [], laidByText := true, laidKinds := [.data, .data, .widerDeep, .widerDeep, .data, .data, .data, .data, .data, .sentinel, .sentinel, .data, .pinned, .pinned], laidTests := true, laidLooks := .later }
def TextOneCardSaid : Prop := Claim7.holds Tryz.pinned (.plain (OpenSpec.ofChange textOneSpec)) textOneCard

/-- THE TIED CARD OF 'tenonlaw02.TextBegins'. -/
def textBeginsCard : Claim7 := { stood := { row := textBeginsRow, standIns := [], harness := (true, "1e7af884c82236b1f819144138f9f70fb0ce697dc9e161157c72eaba5b7c3a2f"), looks := true }, kinds := [], alts := [], laidByText := true, laidKinds := [.data, .data, .widerDeep, .widerDeep, .data, .data, .data, .data, .data, .sentinel, .sentinel, .data, .pinned, .pinned], laidTests := true, laidLooks := .later }
def TextBeginsCardSaid : Prop := Claim7.holds Tryz.pinned (.plain (OpenSpec.ofChange textBeginsSpec)) textBeginsCard

/-- THE SECOND FORM's CARD OF 'tenontop.TopNil'. -/
def topNilUptoCard : Claim7 := { stood := { row := topNilUptoRow, standIns := [], harness := (true, "1e7af884c82236b1f819144138f9f70fb0ce697dc9e161157c72eaba5b7c3a2f"), looks := true }, kinds := [], alts := [], laidByText := true, laidKinds := [.data, .data, .data, .data, .data, .widerDeep, .widerDeep, .pinned, .pinned], laidTests := true, laidLooks := .later }
def TopNilUptoCardSaid : Prop := Claim7.holds Tryz.pinned (.plain (OpenSpec.upto topNilSpec)) topNilUptoCard

/-- THE SECOND FORM's CARD OF 'tenonlaw02.TextLines'. -/
def textLinesUptoCard : Claim7 := { stood := { row := textLinesUptoRow, standIns := [], harness := (true, "1e7af884c82236b1f819144138f9f70fb0ce697dc9e161157c72eaba5b7c3a2f"), looks := true }, kinds := [], alts := [], laidByText := true, laidKinds := [.data, .data, .widerDeep, .widerDeep, .data, .data, .data, .data, .data, .sentinel, .sentinel, .data, .pinned, .pinned], laidTests := true, laidLooks := .later }
def TextLinesUptoCardSaid : Prop := Claim7.holds Tryz.pinned (.plain (OpenSpec.upto textLinesSpec)) textLinesUptoCard

/-- THE SECOND FORM's CARD OF 'tenonlaw02.TextPrints'. -/
def textPrintsUptoCard : Claim7 := { stood := { row := textPrintsUptoRow, standIns := [], harness := (true, "1e7af884c82236b1f819144138f9f70fb0ce697dc9e161157c72eaba5b7c3a2f"), looks := true }, kinds := [], alts := [], laidByText := true, laidKinds := [.data, .data, .data, .data, .data, .pinned, .pinned], laidTests := true, laidLooks := .later }
def TextPrintsUptoCardSaid : Prop := Claim7.holds Tryz.pinned (.plain (OpenSpec.upto textPrintsSpec)) textPrintsUptoCard

/-- THE SECOND FORM's CARD OF 'tenonlaw02.TextFloats'. -/
def textFloatsUptoCard : Claim7 := { stood := { row := textFloatsUptoRow, standIns := [], harness := (true, "1e7af884c82236b1f819144138f9f70fb0ce697dc9e161157c72eaba5b7c3a2f"), looks := true }, kinds := [], alts := [], laidByText := true, laidKinds := [.data, .data, .widerDeep, .widerDeep, .data, .data, .data, .data, .data, .sentinel, .sentinel, .data, .pinned, .pinned], laidTests := true, laidLooks := .later }
def TextFloatsUptoCardSaid : Prop := Claim7.holds Tryz.pinned (.plain (OpenSpec.upto textFloatsSpec)) textFloatsUptoCard

/-- THE SECOND FORM's CARD OF 'tenonlaw02.TextBack'. -/
def textBackUptoCard : Claim7 := { stood := { row := textBackUptoRow, standIns := [], harness := (true, "1e7af884c82236b1f819144138f9f70fb0ce697dc9e161157c72eaba5b7c3a2f"), looks := true }, kinds := [], alts := [], laidByText := true, laidKinds := [.data, .data, .widerDeep, .widerDeep, .data, .data, .data, .data, .data, .sentinel, .sentinel, .data, .pinned, .pinned], laidTests := true, laidLooks := .later }
def TextBackUptoCardSaid : Prop := Claim7.holds Tryz.pinned (.plain (OpenSpec.upto textBackSpec)) textBackUptoCard

/-- THE SECOND FORM's CARD OF 'tenonlaw02.TextOne'. -/
def textOneUptoCard : Claim7 := { stood := { row := textOneUptoRow, standIns := [], harness := (true, "1e7af884c82236b1f819144138f9f70fb0ce697dc9e161157c72eaba5b7c3a2f"), looks := true }, kinds := [], alts := [], laidByText := true, laidKinds := [.data, .data, .widerDeep, .widerDeep, .data, .data, .data, .data, .data, .sentinel, .sentinel, .data, .pinned, .pinned], laidTests := true, laidLooks := .later }
def TextOneUptoCardSaid : Prop := Claim7.holds Tryz.pinned (.plain (OpenSpec.upto textOneSpec)) textOneUptoCard

/-- THE SECOND FORM's CARD OF 'tenonlaw02.TextBegins'. -/
def textBeginsUptoCard : Claim7 := { stood := { row := textBeginsUptoRow, standIns := [], harness := (true, "1e7af884c82236b1f819144138f9f70fb0ce697dc9e161157c72eaba5b7c3a2f"), looks := true }, kinds := [], alts := [], laidByText := true, laidKinds := [.data, .data, .widerDeep, .widerDeep, .data, .data, .data, .data, .data, .sentinel, .sentinel, .data, .pinned, .pinned], laidTests := true, laidLooks := .later }
def TextBeginsUptoCardSaid : Prop := Claim7.holds Tryz.pinned (.plain (OpenSpec.upto textBeginsSpec)) textBeginsUptoCard
end Rows
end Go.Proofs.YtobpkelblpdajaaGreatDoor
