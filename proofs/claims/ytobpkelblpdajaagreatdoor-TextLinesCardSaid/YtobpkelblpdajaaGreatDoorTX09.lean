/- Walks: the value of a term (value.loose), kind by kind. -/
import Derived.Test.YtobpkelblpdajaaGreatDoorTX08
import Derived.Laws.AppendOwnNone
set_option linter.unusedVariables false
set_option linter.unusedSimpArgs false
set_option linter.unusedSectionVars false
namespace Go.Proofs.YtobpkelblpdajaaGreatDoor
open Go Go.RowKit
section
variable (b : Bool) (i : Int) (f : Nat) (t : ByteArray) (bs : List UInt8) (r : Int) (l : List Tm) (d : List (ByteArray × Tm)) (c : ByteArray) (v : Int)
end
end Go.Proofs.YtobpkelblpdajaaGreatDoor
/- Walks: value.loose of a list, of no kind; value.loose. -/
namespace Go.Proofs.YtobpkelblpdajaaGreatDoor
open Go Go.RowKit
end Go.Proofs.YtobpkelblpdajaaGreatDoor
/- Walks: value.Of. -/
namespace Go.Proofs.YtobpkelblpdajaaGreatDoor
open Go Go.RowKit
end Go.Proofs.YtobpkelblpdajaaGreatDoor
/- Walks: value.copiedDict. -/
namespace Go.Proofs.YtobpkelblpdajaaGreatDoor
open Go Go.RowKit
mutual
/- Of kinds that can be, all the way down. -/
def fineV : V → Prop
  | .list l => fineL l
  | .dict l => fineD l
  | .record _ _ l => fineD l
  | .nothing => False
  | .alien => False
  | .nil => True
  | .bool _ => True
  | .int _ => True
  | .flt _ => True
  | .text _ => True
  | .bytes _ => True
  | .ref _ => True
def fineL : List V → Prop
  | [] => True
  | x :: r => fineV x ∧ fineL r
def fineD : List (ByteArray × V) → Prop
  | [] => True
  | (_, x) :: r => fineV x ∧ fineD r
end
end Go.Proofs.YtobpkelblpdajaaGreatDoor
