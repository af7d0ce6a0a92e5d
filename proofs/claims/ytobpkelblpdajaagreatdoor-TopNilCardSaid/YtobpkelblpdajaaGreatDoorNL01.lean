/- Values and terms by what they hold; how memory bears them. -/
import Derived.Test.YtobpkelblpdajaaGreatDoorProg
import Derived.WalkKit
import Derived.WalkSpells
import Derived.WalkLawsBesides
import Derived.Lib.Hide
import Derived.Lib.ConvBytes
import Derived.Deep.AppendLies
import Derived.Deep.LoopGhost
import Derived.Deep.QuietTactic
import Derived.BigQuiet
import Derived.Deep.RegionHeld3
set_option linter.unusedVariables false
set_option linter.unusedSimpArgs false
set_option linter.unusedSectionVars false
namespace Go.Proofs.YtobpkelblpdajaaGreatDoor
open Go Go.RowKit
/- What an interface of no methods holds, as the program tells kinds apart. -/
inductive V where
  | nil
  | bool (b : Bool)
  | int (n : Int)
  | flt (b : Nat)
  | text (s : ByteArray)
  | bytes (l : List UInt8)
  | ref (n : Int)
  | list (l : List V)
  | dict (l : List (ByteArray × V))
  | record (cls : ByteArray) (ver : Int) (l : List (ByteArray × V))
  | nothing
  | alien
theorem V.ind {P : V → Prop} (h0 : P .nil) (h1 : ∀ b, P (.bool b)) (h2 : ∀ n, P (.int n)) (h3 : ∀ b, P (.flt b)) (h4 : ∀ s, P (.text s)) (h5 : ∀ l, P (.bytes l)) (h6 : ∀ n, P (.ref n))
    (h7 : ∀ l, (∀ x ∈ l, P x) → P (.list l)) (h8 : ∀ l, (∀ p ∈ l, P p.2) → P (.dict l)) (h9 : ∀ c v l, (∀ p ∈ l, P p.2) → P (.record c v l)) (h10 : P .nothing) (h11 : P .alien) : ∀ v, P v := by
  intro v
  exact V.rec (motive_1 := P) (motive_2 := fun l => ∀ x ∈ l, P x) (motive_3 := fun l => ∀ p ∈ l, P p.2) (motive_4 := fun p => P p.2) h0 h1 h2 h3 h4 h5 h6 (fun l h => h7 l h) (fun l h => h8 l h) (fun c v l h => h9 c v l h) h10 h11
    (by simp) (fun x r hx hr => by simp; exact ⟨hx, hr⟩) (by simp) (fun p r hp hr => by
      intro q hq; rcases List.mem_cons.1 hq with rfl | hq
      · exact hp
      · exact hr q hq) (fun n v h => h) v
/- A type that is none of those that the program asks for. -/
def alienT (t : TypeId) : Bool := t != 4 && t != 2 && t != 22 && t != 9 && t != 23 && t != 25 && t != 43 && t != 41 && t != 32
/- A row of one-cell places: the cells of a list, from a place on. -/
def Row (w : World) (b off : Nat) (l : List Value) : Prop := ∀ i x, l[i]? = some x → w.cell? ⟨b, off + i, none⟩ = some x
def ByteRow (w : World) (S : Nat → Prop) (A : Option Addr) (l : List UInt8) : Prop := l = [] ∨ ∃ b off, A = some ⟨b, off, none⟩ ∧ S b ∧ ∀ i x, l[i]? = some x → w.cell? ⟨b, off + i, none⟩ = some (.int .u8 (x.toNat : Int))
mutual
def RdS (w : World) (S : Nat → Prop) : V → Value → Prop
  | .nil, v => v = .nilIface
  | .bool b, v => v = .iface 4 (.bool b)
  | .int n, v => v = .iface 2 (.int .i64 n) ∧ -9223372036854775808 ≤ n ∧ n ≤ 9223372036854775807
  | .flt b, v => v = .iface 22 (.float .f64 b)
  | .text s, v => v = .iface 9 (.string s) ∧ s.size ≤ 140737488351232
  | .bytes l, v => ∃ A c, v = .iface 23 (.slice A l.length c) ∧ l.length ≤ 140737488351232 ∧ (A = none → c = 0) ∧ ByteRow w S A l
  | .ref n, v => v = .iface 25 (.int .u64 n) ∧ 0 ≤ n ∧ n ≤ 18446744073709551615
  | .list l, v => ∃ A c, v = .iface 43 (.slice A l.length c) ∧ l.length ≤ 1099511627776 ∧ ((A = none → c = 0) ∧ l.length ≤ c) ∧ (l = [] ∨ ∃ b off, A = some ⟨b, off, none⟩ ∧ S b ∧ RdL w S b off l)
  | .dict l, v => ∃ A c, v = .iface 41 (.slice A l.length c) ∧ l.length ≤ 1099511627776 ∧ (l = [] ∨ ∃ b off, A = some ⟨b, off, none⟩ ∧ S b ∧ RdD w S b off l)
  | .record cls ver l, v => ∃ b, v = .iface 32 (.pointer (some ⟨b, 0, none⟩)) ∧ S b ∧ cls.size ≤ 140737488351232 ∧ w.cell? ⟨b, 0, none⟩ = some (.string cls) ∧ w.cell? ⟨b, 1, none⟩ = some (.int .i64 ver) ∧ -9223372036854775808 ≤ ver ∧ ver ≤ 9223372036854775807 ∧
      ∃ A c, w.cell? ⟨b, 2, none⟩ = some (.slice A l.length c) ∧ l.length ≤ 1099511627776 ∧ (l = [] ∨ ∃ b off, A = some ⟨b, off, none⟩ ∧ S b ∧ RdD w S b off l)
  | .nothing, v => v = .iface 32 (.pointer none)
  | .alien, v => ∃ t x, v = .iface t x ∧ alienT t = true
def RdL (w : World) (S : Nat → Prop) (b : Nat) : Nat → List V → Prop
  | _, [] => True
  | off, x :: r => (∃ v, w.cell? ⟨b, off, none⟩ = some v ∧ RdS w S x v) ∧ RdL w S b (off + 1) r
def RdD (w : World) (S : Nat → Prop) (b : Nat) : Nat → List (ByteArray × V) → Prop
  | _, [] => True
  | off, (n, x) :: r => (w.cell? ⟨b, off, none⟩ = some (.string n) ∧ n.size ≤ 140737488351232 ∧ ∃ v, w.cell? ⟨b, off + 1, none⟩ = some v ∧ RdS w S x v) ∧ RdD w S b (off + 2) r
end
theorem RdL.iff {w : World} {S : Nat → Prop} {b : Nat} {l : List V} : ∀ {off : Nat}, RdL w S b off l ↔ ∀ i x, l[i]? = some x → ∃ v, w.cell? ⟨b, off + i, none⟩ = some v ∧ RdS w S x v := by
  induction l with
  | nil => intro off; simp [RdL]
  | cons x r ih =>
    intro off
    rw [RdL, ih]
    constructor
    · rintro ⟨h1, h2⟩ i y hy
      cases i with
      | zero => simp at hy; subst hy; exact h1
      | succ i =>
        have := h2 i y (by simpa using hy)
        rwa [show off + 1 + i = off + (i + 1) by omega] at this
    · intro h
      refine ⟨h 0 x rfl, fun i y hy => ?_⟩
      have := h (i + 1) y (by simpa using hy)
      rwa [show off + (i + 1) = off + 1 + i by omega] at this
theorem RdD.iff {w : World} {S : Nat → Prop} {b : Nat} {l : List (ByteArray × V)} : ∀ {off : Nat}, RdD w S b off l ↔ ∀ (i : Nat) (p : ByteArray × V), l[i]? = some p → w.cell? ⟨b, off + i * 2, none⟩ = some (.string p.1) ∧ p.1.size ≤ 140737488351232 ∧ ∃ v, w.cell? ⟨b, off + i * 2 + 1, none⟩ = some v ∧ RdS w S p.2 v := by
  induction l with
  | nil => intro off; simp [RdD]
  | cons x r ih =>
    obtain ⟨n, x⟩ := x
    intro off
    rw [RdD, ih]
    constructor
    · rintro ⟨h1, h2⟩ i y hy
      cases i with
      | zero => simp only [List.getElem?_cons_zero, Option.some.injEq] at hy; subst hy; simpa using h1
      | succ i =>
        have := h2 i y (by simpa using hy)
        rwa [show off + 2 + i * 2 = off + (i + 1) * 2 by omega] at this
    · intro h
      refine ⟨by simpa using h 0 (n, x) rfl, fun i y hy => ?_⟩
      have := h (i + 1) y (by simpa using hy)
      rwa [show off + (i + 1) * 2 = off + 2 + i * 2 by omega] at this
/- What memory below a block bears, it bears wherever that memory is as it was. -/
theorem ByteRow.keep {w w' : World} {S : Nat → Prop} {A : Option Addr} {l : List UInt8} (h : ByteRow w S A l) (hk : ∀ p : Addr, S p.block → w'.cell? p = w.cell? p) : ByteRow w' S A l := by
  rcases h with h | ⟨b, off, hA, hb, hc⟩
  · exact .inl h
  · exact .inr ⟨b, off, hA, hb, fun i x hx => (hk _ hb).trans (hc i x hx)⟩
theorem RdS.keep {w w' : World} {S : Nat → Prop} (hk : ∀ p : Addr, S p.block → w'.cell? p = w.cell? p) (x : V) : ∀ v, RdS w S x v → RdS w' S x v := by
  induction x using V.ind with
  | h0 => intro v h; exact h
  | h1 b => intro v h; exact h
  | h2 b => intro v h; exact h
  | h3 b => intro v h; exact h
  | h4 b => intro v h; exact h
  | h5 b => rintro v ⟨A, c, h1, h2, h0, h3⟩; exact ⟨A, c, h1, h2, h0, h3.keep hk⟩
  | h6 b => intro v h; exact h
  | h7 l ih =>
    rintro v ⟨A, c, h1, h2, h0, h3⟩
    refine ⟨A, c, h1, h2, h0, h3.imp id ?_⟩
    rintro ⟨b, off, hA, hb, hr⟩
    refine ⟨b, off, hA, hb, RdL.iff.2 fun i x hx => ?_⟩
    obtain ⟨v, hv, hd⟩ := RdL.iff.1 hr i x hx
    exact ⟨v, (hk _ hb).trans hv, ih x (List.mem_of_getElem? hx) v hd⟩
  | h8 l ih =>
    rintro v ⟨A, c, h1, h2, h3⟩
    refine ⟨A, c, h1, h2, h3.imp id ?_⟩
    rintro ⟨b, off, hA, hb, hr⟩
    refine ⟨b, off, hA, hb, RdD.iff.2 fun i x hx => ?_⟩
    obtain ⟨hn, hs, v, hv, hd⟩ := RdD.iff.1 hr i x hx
    exact ⟨(hk _ hb).trans hn, hs, v, (hk _ hb).trans hv, ih x (List.mem_of_getElem? hx) v hd⟩
  | h9 cls ver l ih =>
    rintro v ⟨b, h1, h2, h3, h4, h5, h6, h7, A, c, h8, h9, h10⟩
    refine ⟨b, h1, h2, h3, (hk _ h2).trans h4, (hk _ h2).trans h5, h6, h7, A, c, (hk _ h2).trans h8, h9, h10.imp id ?_⟩
    rintro ⟨b, off, hA, hb, hr⟩
    refine ⟨b, off, hA, hb, RdD.iff.2 fun i x hx => ?_⟩
    obtain ⟨hn, hs, v, hv, hd⟩ := RdD.iff.1 hr i x hx
    exact ⟨(hk _ hb).trans hn, hs, v, (hk _ hb).trans hv, ih x (List.mem_of_getElem? hx) v hd⟩
  | h10 => intro v h; exact h
  | h11 => intro v h; exact h
theorem ByteRow.more {w : World} {S S' : Nat → Prop} {A : Option Addr} {l : List UInt8} (h : ByteRow w S A l) (hB : ∀ b, S b → S' b) : ByteRow w S' A l := by
  rcases h with h | ⟨b, off, hA, hb, hc⟩
  · exact .inl h
  · exact .inr ⟨b, off, hA, hB _ hb, hc⟩
theorem RdS.more {w : World} {S S' : Nat → Prop} (hB : ∀ b, S b → S' b) (x : V) : ∀ v, RdS w S x v → RdS w S' x v := by
  induction x using V.ind with
  | h0 => intro v h; exact h
  | h1 b => intro v h; exact h
  | h2 b => intro v h; exact h
  | h3 b => intro v h; exact h
  | h4 b => intro v h; exact h
  | h5 b => rintro v ⟨A, c, h1, h2, h0, h3⟩; exact ⟨A, c, h1, h2, h0, h3.more hB⟩
  | h6 b => intro v h; exact h
  | h7 l ih =>
    rintro v ⟨A, c, h1, h2, h0, h3⟩
    refine ⟨A, c, h1, h2, h0, h3.imp id ?_⟩
    rintro ⟨b, off, hA, hb, hr⟩
    refine ⟨b, off, hA, hB _ hb, RdL.iff.2 fun i x hx => ?_⟩
    obtain ⟨v, hv, hd⟩ := RdL.iff.1 hr i x hx
    exact ⟨v, hv, ih x (List.mem_of_getElem? hx) v hd⟩
  | h8 l ih =>
    rintro v ⟨A, c, h1, h2, h3⟩
    refine ⟨A, c, h1, h2, h3.imp id ?_⟩
    rintro ⟨b, off, hA, hb, hr⟩
    refine ⟨b, off, hA, hB _ hb, RdD.iff.2 fun i x hx => ?_⟩
    obtain ⟨hn, hs, v, hv, hd⟩ := RdD.iff.1 hr i x hx
    exact ⟨hn, hs, v, hv, ih x (List.mem_of_getElem? hx) v hd⟩
  | h9 cls ver l ih =>
    rintro v ⟨b, h1, h2, h3, h4, h5, h6, h7, A, c, h8, h9, h10⟩
    refine ⟨b, h1, hB _ h2, h3, h4, h5, h6, h7, A, c, h8, h9, h10.imp id ?_⟩
    rintro ⟨b, off, hA, hb, hr⟩
    refine ⟨b, off, hA, hB _ hb, RdD.iff.2 fun i x hx => ?_⟩
    obtain ⟨hn, hs, v, hv, hd⟩ := RdD.iff.1 hr i x hx
    exact ⟨hn, hs, v, hv, ih x (List.mem_of_getElem? hx) v hd⟩
  | h10 => intro v h; exact h
  | h11 => intro v h; exact h
abbrev Rd (w : World) (B : Nat) (x : V) (v : Value) : Prop := RdS w (fun b => b < B) x v
theorem Rd.below {w w' : World} {B : Nat} {x : V} {v : Value} (h : Rd w B x v) (hb : Below B w w') : Rd w' B x v := RdS.keep (fun _ hp => hb.cell hp) x v h
theorem Rd.more {w : World} {B B' : Nat} (hB : B ≤ B') (x : V) (v : Value) (h : Rd w B x v) : Rd w B' x v := RdS.more (fun _ h => Nat.lt_of_lt_of_le h hB) x v h
theorem RdS.belowS {w w' : World} {S : Nat → Prop} {B : Nat} {x : V} {v : Value} (h : RdS w S x v) (hS : ∀ b, S b → b < B) (hb : Below B w w') : RdS w' S x v := RdS.keep (fun _ hp => hb.cell (hS _ hp)) x v h
theorem RdS.below {w w' : World} {B : Nat} {x : V} {v : Value} (h : RdS w (fun b => b < B) x v) (hb : Below B w w') : RdS w' (fun b => b < B) x v := RdS.keep (fun _ hp => hb.cell hp) x v h
end Go.Proofs.YtobpkelblpdajaaGreatDoor
