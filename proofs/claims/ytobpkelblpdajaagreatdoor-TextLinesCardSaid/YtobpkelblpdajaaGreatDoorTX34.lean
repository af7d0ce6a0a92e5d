/- Walk: the parser: what stands behind a backslash. -/
import Derived.Test.YtobpkelblpdajaaGreatDoorTX33
import Derived.Test.YtobpkelblpdajaaGreatDoorTX15
set_option linter.unusedVariables false
set_option linter.unusedSimpArgs false
set_option linter.unusedSectionVars false
namespace Go.Proofs.YtobpkelblpdajaaGreatDoor
open Go Go.RowKit
def hexv (c : UInt8) : Int := Lib.indexByte hexL c
/- The letters behind a backslash. -/
theorem rest_toList (s : ByteArray) (k : Nat) : (s.extract k s.size).data.toList = s.data.toList.drop k := by
  have h1 : s.data.size = s.size := rfl
  simp [ByteArray.data_extract, h1]
  exact List.take_of_length_le (by rw [List.length_drop, Array.length_toList, h1]; exact Nat.le_refl _)
theorem hexv_lt (c : UInt8) : hexv c < 16 := by
  by_cases h : hexv c < 0
  · omega
  · obtain ⟨o, ho⟩ : ∃ o : Nat, hexv c = o := ⟨(hexv c).toNat, by omega⟩
    have h1 := (List.getElem?_eq_some_iff.1 (Lib.indexByte_some ho).1).1
    have h2 : hexL.length = 16 := rfl
    omega
/- How far the digits behind an x were read. -/
end Go.Proofs.YtobpkelblpdajaaGreatDoor
