/- Walks: mk.Plain; mk.Same of the leaves. -/
import Derived.Test.YtobpkelblpdajaaGreatDoorTX30
import Derived.Test.YtobpkelblpdajaaGreatDoorTX12
set_option linter.unusedVariables false
set_option linter.unusedSimpArgs false
set_option linter.unusedSectionVars false
namespace Go.Proofs.YtobpkelblpdajaaGreatDoor
open Go Go.RowKit
mutual
/- Whether two terms are the same value. -/
def sameT : Tm → Tm → Bool
  | .mk k b i f t bs r l d c v, .mk k' b' i' f' t' bs' r' l' d' c' v' =>
    if k ≠ k' then false
    else if k = 1 ∨ k = 11 then true
    else if k = 2 then b == b'
    else if k = 3 then decide (i = i')
    else if k = 4 then decide (f = f')
    else if k = 5 then t.toList == t'.toList
    else if k = 6 then decide (bs = bs')
    else if k = 7 then decide (r = r')
    else if k = 8 then sameTL l l'
    else if k = 9 then sameTD d d'
    else if k = 10 then (c.toList == c'.toList) && (decide (v = v') && sameTD d d')
    else false
def sameTL : List Tm → List Tm → Bool
  | [], [] => true
  | x :: r, y :: s => sameT x y && sameTL r s
  | _, _ => false
def sameTD : List (ByteArray × Tm) → List (ByteArray × Tm) → Bool
  | [], [] => true
  | (n, x) :: r, (m, y) :: s => (n.toList == m.toList) && sameT x y && sameTD r s
  | _, _ => false
end
section
variable (b : Bool) (i : Int) (f : Nat) (t : ByteArray) (bs : List UInt8) (r : Int) (l : List Tm) (d : List (ByteArray × Tm)) (c : ByteArray) (v : Int) (b' : Bool) (i' : Int) (f' : Nat) (t' : ByteArray) (bs' : List UInt8) (r' : Int) (l' : List Tm) (d' : List (ByteArray × Tm)) (c' : ByteArray) (v' : Int)
end
/- The values that the laws of logic answer: what they are as terms, in every world. -/
end Go.Proofs.YtobpkelblpdajaaGreatDoor
