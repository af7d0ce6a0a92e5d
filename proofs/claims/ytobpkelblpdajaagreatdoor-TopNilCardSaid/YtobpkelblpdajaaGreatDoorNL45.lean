/- A nil within an interface, and a value of a strange type, is told apart from all others by every call that takes values, wherever in a value it lies: none panics, none changes anything, all tell the same. The row is proved, then the card that ties the listed variables to the program's text. No condition. -/
import Derived.Test.YtobpkelblpdajaaGreatDoorNL44
import Derived.Test.YtobpkelblpdajaaGreatDoorRows
import Derived.Test.YtobpkelblpdajaaGreatDoorCards
import Derived.Test.YtobpkelblpdajaaGreatDoorTie
import Derived.ProofKit
import Derived.LaidMore
import Derived.Lay
import Derived.OpenShut
import Derived.ShutString
import Derived.Lib.SmallJoins
import Derived.Stop.Joined
import Derived.SizedLaws
import Derived.SevenTiedAt
import Derived.Carry
import Derived.Laws.Cover2
set_option linter.unusedVariables false
set_option linter.unusedSimpArgs false
set_option linter.unusedSectionVars false
namespace Go.Proofs.YtobpkelblpdajaaGreatDoor.topNil
open Go Go.ChangeShapes Go.WideShapes Go.ChangeAt Go.RowKit Go.Joins Go.Deep
open Go.ChangeMaps (open_string shut_string)
theorem kWf : Rows.topNilRow.wfByText (OpenSpec.ofChange Rows.topNilSpec) = true := by kernel_rfl
theorem kMain : Tryz.pinned.checked.prog.mainIs = some (true, "1e7af884c82236b1f819144138f9f70fb0ce697dc9e161157c72eaba5b7c3a2f".toList) := by kernel_rfl
theorem kLooks : true = Tryz.prog.looks [] := by kernel_rfl
theorem kGoes : false = Rows.topNilRow.goesBy Tryz.prog := by kernel_rfl
theorem kStand : ([29, 2, 4].all fun u => !Tryz.prog.wantsStandIn u) = true := by kernel_rfl
theorem kFunc : Tryz.prog.funcNamed "tenon/tenontop.TopNil" = some 3 := by kernel_rfl
theorem proved : Rows.TopNilCardSaid :=
  Claim7.holds_tied_plain_at .later [] [.data, .data, .data, .data, .data, .widerDeep, .widerDeep, .pinned, .pinned] true (true, "1e7af884c82236b1f819144138f9f70fb0ce697dc9e161157c72eaba5b7c3a2f") true
    over (fun _ h => by cases h) kWf (fun _ h => by cases h) topNil_row_tie rfl ⟨rfl, rfl⟩ kMain rfl
    (fun f fn hf hfn => by
      obtain rfl : f = 3 := Option.some.inj (kFunc.symm.trans hf) |>.symm
      obtain rfl : fn = Tryz.f3 := (Option.some.inj (Tryz.func3.symm.trans hfn)).symm
      exact ⟨kLooks, fun j t ht => by
        rw [Tryz.params3] at ht
        have hm : t ∈ [29, 2, 4] := by simpa using Array.mem_of_getElem? ht
        exact (show Tryz.prog.wantsStandIn t = false by simpa using List.all_eq_true.1 kStand t hm)⟩)
    kGoes
#print axioms proved
end Go.Proofs.YtobpkelblpdajaaGreatDoor.topNil
