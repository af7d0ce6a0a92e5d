/- The row, out of its lifted proof. -/
import Derived.Test.YtobpkelblpdajaaGreatDoorNL43
import Derived.Test.YtobpkelblpdajaaGreatDoorRows
import Derived.Test.YtobpkelblpdajaaGreatDoorCards
import Derived.Test.YtobpkelblpdajaaGreatDoorTie
import Derived.ProofKit
import Derived.LaidMore
import Derived.Lay
import Derived.OpenShut
import Derived.ShutString
import Derived.Lib.SmallJoins
import Derived.Stop.Joined
import Derived.SizedLaws
import Derived.SevenTiedAt
import Derived.Carry
import Derived.Laws.Cover2
set_option linter.unusedVariables false
set_option linter.unusedSimpArgs false
set_option linter.unusedSectionVars false
namespace Go.Proofs.YtobpkelblpdajaaGreatDoor.topNil
open Go Go.ChangeShapes Go.WideShapes Go.ChangeAt Go.RowKit Go.Joins Go.Deep
open Go.ChangeMaps (open_string shut_string)
theorem kLaid : laidOutB Tryz.prog = true := by kernel_rfl
theorem kMaps : mapsRowed Tryz.prog = true := by kernel_rfl
theorem kPlace : (Rows.topNilRow.inPlace == Tryz.prog.inPlace 3) = true := by kernel_rfl
theorem kUnf : (Rows.topNilRow.unfollowed == Tryz.prog.unfollowed 3) = true := by kernel_rfl
theorem kRec : (Rows.topNilRow.recurses == Tryz.prog.recurses 3) = true := by kernel_rfl
theorem kNamed : (Rows.topNilRow.named == Tryz.prog.varsNamed 3) = true := by kernel_rfl
theorem kName : Tryz.pinned.checked.prog.funcNamed Rows.topNilRow.func = some 3 := by kernel_rfl
theorem closed : joinedFacts Tryz.prog 3 Tryz.f3 Rows.topNilSpec Rows.topNilRow = true := by
  unfold joinedFacts
  rw [kLaid, kMaps, kPlace, kUnf, kRec, kNamed]
  kernel_rfl
theorem over : Rows.TopNilSaid :=
  OpenClaim.holds_of_wide 3 Tryz.f3 rfl rfl rfl rfl rfl rfl rfl ⟨rfl, rfl, rfl, rfl, rfl⟩ rfl rfl rfl rfl rfl kName Tryz.func3 closed
    (of_decide_eq_true (by kernel_rfl)) (by unfold Func.isWrapper; first | (rw [if_pos (by decide +kernel)]; kernel_rfl) | (rw [if_neg (by decide +kernel)]; exact ⟨rfl, rfl⟩))
    (fun os started H enc _ => lifted os started H enc)
end Go.Proofs.YtobpkelblpdajaaGreatDoor.topNil
