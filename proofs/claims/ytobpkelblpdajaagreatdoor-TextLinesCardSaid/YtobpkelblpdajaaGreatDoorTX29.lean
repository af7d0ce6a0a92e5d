/- Walk: the document's Float. -/
import Derived.Test.YtobpkelblpdajaaGreatDoorTX28
import Derived.Outline
set_option linter.unusedVariables false
set_option linter.unusedSimpArgs false
set_option linter.unusedSectionVars false
namespace Go.Proofs.YtobpkelblpdajaaGreatDoor
open Go Go.RowKit
end Go.Proofs.YtobpkelblpdajaaGreatDoor
