/- The law of nil, whole. -/
import Derived.Test.YtobpkelblpdajaaGreatDoorNL41
set_option linter.unusedVariables false
set_option linter.unusedSimpArgs false
set_option linter.unusedSectionVars false
namespace Go.Proofs.YtobpkelblpdajaaGreatDoor
open Go Go.RowKit
theorem topnil_any (T : Tm) (n : Int) (k : Bool) (xs : List Value) (w : World) (hx : RdT w w.heap.size T xs) : Calls Tryz.prog 3 #[termOf xs, .int .i64 n, .bool k] w (BoolPost true w) := by
  by_cases hg : (checkV (builtV (recT T))).2 = 0
  · cases k
    · exact law_ag T n xs w hx hg
    · exact law_ng T n xs w hx hg
  · cases k
    · exact law_ab T n xs w hx hg
    · exact law_nb T n xs w hx hg
end Go.Proofs.YtobpkelblpdajaaGreatDoor
