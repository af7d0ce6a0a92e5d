/- Walk: the document's put: what it leans on; terms without terms. -/
import Derived.Test.YtobpkelblpdajaaGreatDoorTX33
import Derived.Test.YtobpkelblpdajaaGreatDoorTX22
import Derived.Lib.AppendZeros
import Derived.Test.YtobpkelblpdajaaGreatDoorTX34
set_option linter.unusedVariables false
set_option linter.unusedSimpArgs false
set_option linter.unusedSectionVars false
namespace Go.Proofs.YtobpkelblpdajaaGreatDoor
open Go Go.RowKit
/- What lies below B stays, and of the rest whatever is no row of bytes. -/
def RK (B : Nat) (w w' : World) : Prop := Below B w w' ∧ Lib.OthersKept 5 none w w'
theorem RK.refl (B : Nat) (w : World) : RK B w w := ⟨Below.refl _ _, Lib.OthersKept.refl _ _ _⟩
theorem RK.trans {B : Nat} {a b c : World} (h : RK B a b) (g : RK B b c) : RK B a c := ⟨h.1.trans g.1, h.2.trans g.2⟩
theorem RK.alloc {B : Nat} {a w : World} (h : RK B a w) (hB : B ≤ w.heap.size) (o : Obj) : RK B a (w.alloc o) := ⟨h.1.alloc hB o, h.2.alloc o⟩
theorem RK.call {B : Nat} {a w w2 : World} (h : RK B a w) (hB : B ≤ w.heap.size) (hb : Below w.heap.size w w2) : RK B a w2 :=
  ⟨h.1.trans (hb.mono hB), fun k o hk hne ho => by
    have h1 := h.2 k o hk hne ho
    have hlt : k < w.heap.size := (Array.getElem?_eq_some_iff.1 h1).1
    exact (hb.block k hlt).trans h1⟩
theorem RK.block {B : Nat} {w w' : World} (h : RK B w w') {k : Nat} {o : Obj} (hk : w.heap[k]? = some o) (ho : ∀ c fz, o ≠ .cells c 5 fz) : w'.heap[k]? = some o := h.2 k o hk (by simp) ho
theorem OwnB.to {w : World} {B : Nat} {v : Value} {l m : List UInt8} (h : OwnB w B v l) (e : l = m) : OwnB w B v m := e ▸ h
/- What an owned row that is not empty brings to an append. -/
theorem cells_lt {w : World} {p : Addr} {v : Value} (h : w.cell? p = some v) : p.block < w.heap.size := World.block_lt_of_cell? _ _ h
end Go.Proofs.YtobpkelblpdajaaGreatDoor
/- Walk: the parser: a text between quotes. -/
namespace Go.Proofs.YtobpkelblpdajaaGreatDoor
open Go Go.RowKit
theorem own_row_ge {w : World} {B : Nat} {v : Value} {l : List UInt8} (h : OwnB w B v l) (g : Nat) (hg : v.ownBlock = some g) : B ≤ g := (World.ownsRow.lt h g hg).1
theorem Pside.grown {bp : Nat} {a w w2 : World} {row : Option Nat} (h : Pside bp a w) (hg : w.grownBy w2 row) (hr : ∀ j, row = some j → a.heap.size ≤ j) : Pside bp a w2 :=
  ⟨hg.os.trans h.os, hg.tape.trans h.tape, hg.output.trans h.output, Nat.le_trans h.size hg.size, fun k hk hn => (hg.block k (Nat.lt_of_lt_of_le hk h.size) (fun e => by have := hr k e.symm; omega)).trans (h.block k hk hn)⟩
theorem Pside.alloc {bp : Nat} {a w : World} (h : Pside bp a w) (o : Obj) : Pside bp a (w.alloc o) := h.trans (Pside.of_below ((Below.refl _ _).alloc (Nat.le_refl _) o))
theorem PaAt.grown {w w2 : World} {bp : Nat} {s : ByteArray} {a n : Nat} {row : Option Nat} (h : PaAt w bp s a n) (hg : w.grownBy w2 row) (hr : row ≠ some bp) : PaAt w2 bp s a n := (hg.block bp h.lt (fun e => hr e.symm)).trans h
theorem PaAt.alloc {w : World} {bp : Nat} {s : ByteArray} {a n : Nat} (h : PaAt w bp s a n) (o : Obj) : PaAt (w.alloc o) bp s a n := h.below ((Below.refl _ _).alloc (Nat.le_refl _) o)
theorem PaAt.set1' {w : World} {bp : Nat} {s : ByteArray} {a n : Nat} (h : PaAt w bp s a n) (m b : Nat) : PaAt ((w.drewN m).setCell ⟨bp, 1, none⟩ (.int .i64 ((b : Int) + 1))) bp s (b + 1) n := by have h9 := (h.drewN m).set1 (b + 1); simpa using h9
theorem OwnB.pside {w w2 : World} {B bp : Nat} {v : Value} {l : List UInt8} (h : OwnB w B v l) (hp : Pside bp w w2) (hb : bp < B) : OwnB w2 B v l :=
  World.ownsRow.kept h (row := some bp) ⟨hp.os, hp.tape, hp.output, hp.size, fun k hk hn => hp.block k hk (fun e => hn (by rw [e]))⟩ (Or.inr (fun e => by
    have := own_row_ge h bp e; omega))
theorem Esc.pside {w w2 : World} {bp : Nat} (h : Esc w) (hp : Pside bp w w2) (hn : 1 ≠ bp) : Esc w2 := ⟨Nat.lt_of_lt_of_le h.1 hp.size, fun j x hj => (hp.cell (p := ⟨1, j, none⟩) h.1 hn).trans (h.2 j x hj)⟩
/- Fuel that is enough. -/
end Go.Proofs.YtobpkelblpdajaaGreatDoor
