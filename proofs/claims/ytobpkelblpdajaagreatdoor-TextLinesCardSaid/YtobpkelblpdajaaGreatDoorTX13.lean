/- Walks: a value that cannot be, or a record that is none, is told by every call that takes values. -/
import Derived.Test.YtobpkelblpdajaaGreatDoorTX12
import Derived.Defers
import Derived.Test.YtobpkelblpdajaaGreatDoorTX08
import Derived.Lib.AppendStr
import Derived.Lib.UnsafeStr
set_option linter.unusedVariables false
set_option linter.unusedSimpArgs false
set_option linter.unusedSectionVars false
namespace Go.Proofs.YtobpkelblpdajaaGreatDoor
open Go Go.RowKit
end Go.Proofs.YtobpkelblpdajaaGreatDoor
/- Walks: a value that cannot be, told by a digest's map, a type's check, a query, a heap, a registry. -/
namespace Go.Proofs.YtobpkelblpdajaaGreatDoor
open Go Go.RowKit
attribute [local go_sem] ta_no_bool ta_yes_bool ta_nil_bool ta_no_int64 ta_yes_int64 ta_nil_int64 ta_no_flt ta_yes_flt ta_nil_flt ta_no_str ta_yes_str ta_nil_str ta_no_byt ta_yes_byt ta_nil_byt ta_no_ref ta_yes_ref ta_nil_ref ta_no_lst ta_yes_lst ta_nil_lst ta_no_dct ta_yes_dct ta_nil_dct ta_no_rec ta_yes_rec ta_nil_rec
/- A row of bytes that a call owns, from a block on. -/
def OwnB (w : World) (B : Nat) (v : Value) (l : List UInt8) : Prop := w.ownsRow B 5 1 v l.length (Lib.byteCells l)
def AppPost (B : Nat) (l : List UInt8) (w : World) (e : Ending) (w' : World) : Prop := ∃ v', e = .returned v' ∧ OwnB w' B v' l ∧ Below B w w'
theorem OwnB.nil (w : World) (B : Nat) : OwnB w B (.slice none 0 0) [] := World.ownsRow_nil w B _ 1
theorem OwnB.snoc {w : World} {B : Nat} {v : Value} {l : List UInt8} {c : UInt8} {n : Int} (hn : n = (c.toNat : Int)) (h : w.ownsRow B 5 1 v (l.length + 1) (Lib.byteCells l ++ [.int .u8 n])) : OwnB w B v (l ++ [c]) := by
  subst hn
  unfold OwnB
  rw [Lib.byteCells_append, List.length_append]
  exact h
theorem grown_below {B : Nat} {w w2 : World} {v : Value} {l : List UInt8} {o : Obj} (hown : OwnB w B v l) (hB : B ≤ w.heap.size) (hg : (w.alloc o).grownBy w2 v.ownBlock) : Below B w w2 :=
  ((Below.refl B w).alloc hB o).grown hg (by simp; omega) (fun j hj => (World.ownsRow.lt hown j hj).1)
end Go.Proofs.YtobpkelblpdajaaGreatDoor
