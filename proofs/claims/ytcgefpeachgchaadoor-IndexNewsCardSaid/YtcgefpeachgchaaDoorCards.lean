/-
  DERIVED. GIVEN WITH THE SEED: THE CARDS: each row of YtcgefpeachgchaaDoorRows.lean that lists a variable, with what it lists TIED to the program's text (the seventh form; the later family's looks); each row that meets fmt, with fmt's text TOLD by the authors' own Lean function (tested against real Go, not proved from fmt's source: count such statements apart). THE CARD IS WHAT COUNTS. Prove the row's statement (the work); the ties are given (YtcgefpeachgchaaDoorTie.lean); close each card by the builder's one call (the guide's Derived/Test/ToyasCard.lean, 'card_holds'). Laid BY PROGRAM, IN A SANDBOX (cutbox-door.mjs). By AI agents, Wed Nov 11 2026. No macro, syntax, notation, axiom, sorry.
-/
import Derived.Test.YtcgefpeachgchaaDoorRows
import GoSem.ClaimSeven
namespace Go.Proofs.YtcgefpeachgchaaDoor
namespace Rows

/-- THE TIED CARD OF 'tenonlaw16.IndexNews'. -/
def indexNewsCard : Claim7 := { stood := { row := indexNewsRow, standIns := [], harness := (true, "7ba595072fd83ea96d7eda2a4640a457baca174ff8b89f196474fb3d81d5d1a6"), looks := true }, kinds := [], alts := [], laidByText := true, laidKinds := [.data, .data, .data, .sentinel, .sentinel], laidTests := true, laidLooks := .later }
def IndexNewsCardSaid : Prop := Claim7.holds Tryd.pinned (.plain (OpenSpec.ofChange indexNewsSpec)) indexNewsCard

/-- THE SECOND FORM's CARD OF 'tenonlaw16.IndexNews'. -/
def indexNewsUptoCard : Claim7 := { stood := { row := indexNewsUptoRow, standIns := [], harness := (true, "7ba595072fd83ea96d7eda2a4640a457baca174ff8b89f196474fb3d81d5d1a6"), looks := true }, kinds := [], alts := [], laidByText := true, laidKinds := [.data, .data, .data, .sentinel, .sentinel], laidTests := true, laidLooks := .later }
def IndexNewsUptoCardSaid : Prop := Claim7.holds Tryd.pinned (.plain (OpenSpec.upto indexNewsSpec)) indexNewsUptoCard
end Rows
end Go.Proofs.YtcgefpeachgchaaDoor
