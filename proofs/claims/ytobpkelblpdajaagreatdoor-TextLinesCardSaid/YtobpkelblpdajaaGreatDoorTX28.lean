/- Walks: the document's Quote and breaks. -/
import Derived.Test.YtobpkelblpdajaaGreatDoorTX27
set_option linter.unusedVariables false
set_option linter.unusedSimpArgs false
set_option linter.unusedSectionVars false
namespace Go.Proofs.YtobpkelblpdajaaGreatDoor
open Go Go.RowKit
def RQ (t : ByteArray) (w : World) (g : Nat) (v i : Value) (wr : World) : Prop := ∃ k : Nat, i = .int .i64 k ∧ k + g = t.size ∧ OwnB wr w.heap.size v (34 :: (t.data.toList.take k).flatMap escB) ∧ Below w.heap.size w wr
theorem RQ.step {t : ByteArray} {w w1 w2 : World} {g k n : Nat} {c : UInt8} {news : List Value} {l m : List UInt8} {v v2 : Value} {o : Obj} (hl : l = 34 :: (t.data.toList.take k).flatMap escB) (hm : m = escB c) (hk : t.data.toList[k]? = some c) (hkg : k + (g + 1) = t.size)
    (hn : n = m.length) (hnews : news = Lib.byteCells m) (hown : OwnB w1 w.heap.size v l) (hb : Below w.heap.size w w1) (hg : (w1.alloc o).grownBy w2 v.ownBlock) (h : w2.ownsRow w.heap.size 5 1 v2 (l.length + n) (Lib.byteCells l ++ news)) :
    RQ t w g v2 (.int .i64 ((k : Int) + 1)) w2 := by
  refine ⟨k + 1, by simp, by omega, ?_, hb.trans (grown_below hown hb.size hg)⟩
  have h2 := OwnB.app hn hnews h
  rw [List.take_add_one, hk]
  subst hl
  subst hm
  simpa using h2
end Go.Proofs.YtobpkelblpdajaaGreatDoor
