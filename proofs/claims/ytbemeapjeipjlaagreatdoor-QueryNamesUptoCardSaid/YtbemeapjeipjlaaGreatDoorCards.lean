/-
  DERIVED. GIVEN WITH THE SEED: THE CARDS: each row of YtbemeapjeipjlaaGreatDoorRows.lean that lists a variable, with what it lists TIED to the program's text (the seventh form; the later family's looks); each row that meets fmt, with fmt's text TOLD by the authors' own Lean function (tested against real Go, not proved from fmt's source: count such statements apart). THE CARD IS WHAT COUNTS. Prove the row's statement (the work); the ties are given (YtbemeapjeipjlaaGreatDoorTie.lean); close each card by the builder's one call (the guide's Derived/Test/ToyasCard.lean, 'card_holds'). Laid BY PROGRAM, IN A SANDBOX (cutbox-door.mjs). By AI agents, Wed Nov 11 2026. No macro, syntax, notation, axiom, sorry.
-/
import Derived.Test.YtbemeapjeipjlaaGreatDoorRows
import GoSem.ClaimSeven
namespace Go.Proofs.YtbemeapjeipjlaaGreatDoor
namespace Rows

/-- THE TIED CARD OF 'tenonlaw17.QueryNames'. -/
def queryNamesCard : Claim7 := { stood := { row := queryNamesRow, standIns := [], harness := (true, "cfd40f2f2635b55ed1940b05a208e8c67c7f55c334241f057b4e7590ccd58b02"), looks := true }, kinds := [], alts := [], laidByText := true, laidKinds := [.widerDeep, .widerDeep], laidTests := true, laidLooks := .later }
def QueryNamesCardSaid : Prop := Claim7.holds Tryz.pinned (.plain (OpenSpec.ofChange queryNamesSpec)) queryNamesCard

/-- THE TIED CARD OF 'tenonlaw17.QueryLogic'. -/
def queryLogicCard : Claim7 := { stood := { row := queryLogicRow, standIns := [], harness := (true, "cfd40f2f2635b55ed1940b05a208e8c67c7f55c334241f057b4e7590ccd58b02"), looks := true }, kinds := [], alts := [], laidByText := true, laidKinds := [.widerDeep, .widerDeep], laidTests := true, laidLooks := .later }
def QueryLogicCardSaid : Prop := Claim7.holds Tryz.pinned (.plain (OpenSpec.ofChange queryLogicSpec)) queryLogicCard

/-- THE TIED CARD OF 'tenonlaw17.QueryEvals'. -/
def queryEvalsCard : Claim7 := { stood := { row := queryEvalsRow, standIns := [], harness := (true, "cfd40f2f2635b55ed1940b05a208e8c67c7f55c334241f057b4e7590ccd58b02"), looks := true }, kinds := [], alts := [], laidByText := true, laidKinds := [.widerDeep, .widerDeep], laidTests := true, laidLooks := .later }
def QueryEvalsCardSaid : Prop := Claim7.holds Tryz.pinned (.plain (OpenSpec.ofChange queryEvalsSpec)) queryEvalsCard

/-- THE SECOND FORM's CARD OF 'tenonlaw17.QueryNames'. -/
def queryNamesUptoCard : Claim7 := { stood := { row := queryNamesUptoRow, standIns := [], harness := (true, "cfd40f2f2635b55ed1940b05a208e8c67c7f55c334241f057b4e7590ccd58b02"), looks := true }, kinds := [], alts := [], laidByText := true, laidKinds := [.widerDeep, .widerDeep], laidTests := true, laidLooks := .later }
def QueryNamesUptoCardSaid : Prop := Claim7.holds Tryz.pinned (.plain (OpenSpec.upto queryNamesSpec)) queryNamesUptoCard

/-- THE SECOND FORM's CARD OF 'tenonlaw17.QueryLogic'. -/
def queryLogicUptoCard : Claim7 := { stood := { row := queryLogicUptoRow, standIns := [], harness := (true, "cfd40f2f2635b55ed1940b05a208e8c67c7f55c334241f057b4e7590ccd58b02"), looks := true }, kinds := [], alts := [], laidByText := true, laidKinds := [.widerDeep, .widerDeep], laidTests := true, laidLooks := .later }
def QueryLogicUptoCardSaid : Prop := Claim7.holds Tryz.pinned (.plain (OpenSpec.upto queryLogicSpec)) queryLogicUptoCard

/-- THE SECOND FORM's CARD OF 'tenonlaw17.QueryEvals'. -/
def queryEvalsUptoCard : Claim7 := { stood := { row := queryEvalsUptoRow, standIns := [], harness := (true, "cfd40f2f2635b55ed1940b05a208e8c67c7f55c334241f057b4e7590ccd58b02"), looks := true }, kinds := [], alts := [], laidByText := true, laidKinds := [.widerDeep, .widerDeep], laidTests := true, laidLooks := .later }
def QueryEvalsUptoCardSaid : Prop := Claim7.holds Tryz.pinned (.plain (OpenSpec.upto queryEvalsSpec)) queryEvalsUptoCard
end Rows
end Go.Proofs.YtbemeapjeipjlaaGreatDoor
