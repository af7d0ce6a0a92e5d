/- Walks: whether two rows of terms are the same (mk.Lists, mk.Entries). -/
import Derived.Test.YtobpkelblpdajaaGreatDoorTX31
import Derived.Test.YtobpkelblpdajaaGreatDoorTX07
import Derived.Laws.IdiomStrings
import Derived.Laws.BytesArg
set_option linter.unusedVariables false
set_option linter.unusedSimpArgs false
set_option linter.unusedSectionVars false
namespace Go.Proofs.YtobpkelblpdajaaGreatDoor
open Go Go.RowKit
end Go.Proofs.YtobpkelblpdajaaGreatDoor
/- Walks: mk.Same of any two terms. -/
namespace Go.Proofs.YtobpkelblpdajaaGreatDoor
open Go Go.RowKit
section
variable (b : Bool) (i : Int) (f : Nat) (t : ByteArray) (bs : List UInt8) (r : Int) (l : List Tm) (d : List (ByteArray × Tm)) (c : ByteArray) (v : Int) (b' : Bool) (i' : Int) (f' : Nat) (t' : ByteArray) (bs' : List UInt8) (r' : Int) (l' : List Tm) (d' : List (ByteArray × Tm)) (c' : ByteArray) (v' : Int)
end
/- mk.Same answers whether two terms are the same value. -/
end Go.Proofs.YtobpkelblpdajaaGreatDoor
