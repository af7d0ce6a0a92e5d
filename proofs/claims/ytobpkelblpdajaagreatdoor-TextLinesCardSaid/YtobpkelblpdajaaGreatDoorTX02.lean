/- Values and terms by what they hold; how memory bears them. -/
import Derived.Test.YtobpkelblpdajaaGreatDoorProg
import Derived.WalkKit
import Derived.WalkSpells
import Derived.WalkLawsBesides
import Derived.Lib.Hide
import Derived.Lib.ConvBytes
import Derived.Deep.AppendLies
import Derived.Deep.LoopGhost
import Derived.Deep.QuietTactic
import Derived.BigQuiet
import Derived.Deep.RegionHeld3
set_option linter.unusedVariables false
set_option linter.unusedSimpArgs false
set_option linter.unusedSectionVars false
namespace Go.Proofs.YtobpkelblpdajaaGreatDoor
open Go Go.RowKit
/- What an interface of no methods holds, as the program tells kinds apart. -/
inductive V where
  | nil
  | bool (b : Bool)
  | int (n : Int)
  | flt (b : Nat)
  | text (s : ByteArray)
  | bytes (l : List UInt8)
  | ref (n : Int)
  | list (l : List V)
  | dict (l : List (ByteArray × V))
  | record (cls : ByteArray) (ver : Int) (l : List (ByteArray × V))
  | nothing
  | alien
theorem V.ind {P : V → Prop} (h0 : P .nil) (h1 : ∀ b, P (.bool b)) (h2 : ∀ n, P (.int n)) (h3 : ∀ b, P (.flt b)) (h4 : ∀ s, P (.text s)) (h5 : ∀ l, P (.bytes l)) (h6 : ∀ n, P (.ref n))
    (h7 : ∀ l, (∀ x ∈ l, P x) → P (.list l)) (h8 : ∀ l, (∀ p ∈ l, P p.2) → P (.dict l)) (h9 : ∀ c v l, (∀ p ∈ l, P p.2) → P (.record c v l)) (h10 : P .nothing) (h11 : P .alien) : ∀ v, P v := by
  intro v
  exact V.rec (motive_1 := P) (motive_2 := fun l => ∀ x ∈ l, P x) (motive_3 := fun l => ∀ p ∈ l, P p.2) (motive_4 := fun p => P p.2) h0 h1 h2 h3 h4 h5 h6 (fun l h => h7 l h) (fun l h => h8 l h) (fun c v l h => h9 c v l h) h10 h11
    (by simp) (fun x r hx hr => by simp; exact ⟨hx, hr⟩) (by simp) (fun p r hp hr => by
      intro q hq; rcases List.mem_cons.1 hq with rfl | hq
      · exact hp
      · exact hr q hq) (fun n v h => h) v
/- A type that is none of those that the program asks for. -/
def alienT (t : TypeId) : Bool := t != 4 && t != 2 && t != 22 && t != 9 && t != 23 && t != 25 && t != 43 && t != 41 && t != 32
/- A row of one-cell places: the cells of a list, from a place on. -/
def ByteRow (w : World) (S : Nat → Prop) (A : Option Addr) (l : List UInt8) : Prop := l = [] ∨ ∃ b off, A = some ⟨b, off, none⟩ ∧ S b ∧ ∀ i x, l[i]? = some x → w.cell? ⟨b, off + i, none⟩ = some (.int .u8 (x.toNat : Int))
mutual
def RdS (w : World) (S : Nat → Prop) : V → Value → Prop
  | .nil, v => v = .nilIface
  | .bool b, v => v = .iface 4 (.bool b)
  | .int n, v => v = .iface 2 (.int .i64 n) ∧ -9223372036854775808 ≤ n ∧ n ≤ 9223372036854775807
  | .flt b, v => v = .iface 22 (.float .f64 b)
  | .text s, v => v = .iface 9 (.string s) ∧ s.size ≤ 140737488351232
  | .bytes l, v => ∃ A c, v = .iface 23 (.slice A l.length c) ∧ l.length ≤ 140737488351232 ∧ (A = none → c = 0) ∧ ByteRow w S A l
  | .ref n, v => v = .iface 25 (.int .u64 n) ∧ 0 ≤ n ∧ n ≤ 18446744073709551615
  | .list l, v => ∃ A c, v = .iface 43 (.slice A l.length c) ∧ l.length ≤ 1099511627776 ∧ ((A = none → c = 0) ∧ l.length ≤ c) ∧ (l = [] ∨ ∃ b off, A = some ⟨b, off, none⟩ ∧ S b ∧ RdL w S b off l)
  | .dict l, v => ∃ A c, v = .iface 41 (.slice A l.length c) ∧ l.length ≤ 1099511627776 ∧ (l = [] ∨ ∃ b off, A = some ⟨b, off, none⟩ ∧ S b ∧ RdD w S b off l)
  | .record cls ver l, v => ∃ b, v = .iface 32 (.pointer (some ⟨b, 0, none⟩)) ∧ S b ∧ cls.size ≤ 140737488351232 ∧ w.cell? ⟨b, 0, none⟩ = some (.string cls) ∧ w.cell? ⟨b, 1, none⟩ = some (.int .i64 ver) ∧ -9223372036854775808 ≤ ver ∧ ver ≤ 9223372036854775807 ∧
      ∃ A c, w.cell? ⟨b, 2, none⟩ = some (.slice A l.length c) ∧ l.length ≤ 1099511627776 ∧ (l = [] ∨ ∃ b off, A = some ⟨b, off, none⟩ ∧ S b ∧ RdD w S b off l)
  | .nothing, v => v = .iface 32 (.pointer none)
  | .alien, v => ∃ t x, v = .iface t x ∧ alienT t = true
def RdL (w : World) (S : Nat → Prop) (b : Nat) : Nat → List V → Prop
  | _, [] => True
  | off, x :: r => (∃ v, w.cell? ⟨b, off, none⟩ = some v ∧ RdS w S x v) ∧ RdL w S b (off + 1) r
def RdD (w : World) (S : Nat → Prop) (b : Nat) : Nat → List (ByteArray × V) → Prop
  | _, [] => True
  | off, (n, x) :: r => (w.cell? ⟨b, off, none⟩ = some (.string n) ∧ n.size ≤ 140737488351232 ∧ ∃ v, w.cell? ⟨b, off + 1, none⟩ = some v ∧ RdS w S x v) ∧ RdD w S b (off + 2) r
end
theorem RdL.iff {w : World} {S : Nat → Prop} {b : Nat} {l : List V} : ∀ {off : Nat}, RdL w S b off l ↔ ∀ i x, l[i]? = some x → ∃ v, w.cell? ⟨b, off + i, none⟩ = some v ∧ RdS w S x v := by
  induction l with
  | nil => intro off; simp [RdL]
  | cons x r ih =>
    intro off
    rw [RdL, ih]
    constructor
    · rintro ⟨h1, h2⟩ i y hy
      cases i with
      | zero => simp at hy; subst hy; exact h1
      | succ i =>
        have := h2 i y (by simpa using hy)
        rwa [show off + 1 + i = off + (i + 1) by omega] at this
    · intro h
      refine ⟨h 0 x rfl, fun i y hy => ?_⟩
      have := h (i + 1) y (by simpa using hy)
      rwa [show off + (i + 1) = off + 1 + i by omega] at this
theorem RdD.iff {w : World} {S : Nat → Prop} {b : Nat} {l : List (ByteArray × V)} : ∀ {off : Nat}, RdD w S b off l ↔ ∀ (i : Nat) (p : ByteArray × V), l[i]? = some p → w.cell? ⟨b, off + i * 2, none⟩ = some (.string p.1) ∧ p.1.size ≤ 140737488351232 ∧ ∃ v, w.cell? ⟨b, off + i * 2 + 1, none⟩ = some v ∧ RdS w S p.2 v := by
  induction l with
  | nil => intro off; simp [RdD]
  | cons x r ih =>
    obtain ⟨n, x⟩ := x
    intro off
    rw [RdD, ih]
    constructor
    · rintro ⟨h1, h2⟩ i y hy
      cases i with
      | zero => simp only [List.getElem?_cons_zero, Option.some.injEq] at hy; subst hy; simpa using h1
      | succ i =>
        have := h2 i y (by simpa using hy)
        rwa [show off + 2 + i * 2 = off + (i + 1) * 2 by omega] at this
    · intro h
      refine ⟨by simpa using h 0 (n, x) rfl, fun i y hy => ?_⟩
      have := h (i + 1) y (by simpa using hy)
      rwa [show off + (i + 1) * 2 = off + 2 + i * 2 by omega] at this
/- What memory below a block bears, it bears wherever that memory is as it was. -/
theorem ByteRow.keep {w w' : World} {S : Nat → Prop} {A : Option Addr} {l : List UInt8} (h : ByteRow w S A l) (hk : ∀ p : Addr, S p.block → w'.cell? p = w.cell? p) : ByteRow w' S A l := by
  rcases h with h | ⟨b, off, hA, hb, hc⟩
  · exact .inl h
  · exact .inr ⟨b, off, hA, hb, fun i x hx => (hk _ hb).trans (hc i x hx)⟩
theorem RdS.keep {w w' : World} {S : Nat → Prop} (hk : ∀ p : Addr, S p.block → w'.cell? p = w.cell? p) (x : V) : ∀ v, RdS w S x v → RdS w' S x v := by
  induction x using V.ind with
  | h0 => intro v h; exact h
  | h1 b => intro v h; exact h
  | h2 b => intro v h; exact h
  | h3 b => intro v h; exact h
  | h4 b => intro v h; exact h
  | h5 b => rintro v ⟨A, c, h1, h2, h0, h3⟩; exact ⟨A, c, h1, h2, h0, h3.keep hk⟩
  | h6 b => intro v h; exact h
  | h7 l ih =>
    rintro v ⟨A, c, h1, h2, h0, h3⟩
    refine ⟨A, c, h1, h2, h0, h3.imp id ?_⟩
    rintro ⟨b, off, hA, hb, hr⟩
    refine ⟨b, off, hA, hb, RdL.iff.2 fun i x hx => ?_⟩
    obtain ⟨v, hv, hd⟩ := RdL.iff.1 hr i x hx
    exact ⟨v, (hk _ hb).trans hv, ih x (List.mem_of_getElem? hx) v hd⟩
  | h8 l ih =>
    rintro v ⟨A, c, h1, h2, h3⟩
    refine ⟨A, c, h1, h2, h3.imp id ?_⟩
    rintro ⟨b, off, hA, hb, hr⟩
    refine ⟨b, off, hA, hb, RdD.iff.2 fun i x hx => ?_⟩
    obtain ⟨hn, hs, v, hv, hd⟩ := RdD.iff.1 hr i x hx
    exact ⟨(hk _ hb).trans hn, hs, v, (hk _ hb).trans hv, ih x (List.mem_of_getElem? hx) v hd⟩
  | h9 cls ver l ih =>
    rintro v ⟨b, h1, h2, h3, h4, h5, h6, h7, A, c, h8, h9, h10⟩
    refine ⟨b, h1, h2, h3, (hk _ h2).trans h4, (hk _ h2).trans h5, h6, h7, A, c, (hk _ h2).trans h8, h9, h10.imp id ?_⟩
    rintro ⟨b, off, hA, hb, hr⟩
    refine ⟨b, off, hA, hb, RdD.iff.2 fun i x hx => ?_⟩
    obtain ⟨hn, hs, v, hv, hd⟩ := RdD.iff.1 hr i x hx
    exact ⟨(hk _ hb).trans hn, hs, v, (hk _ hb).trans hv, ih x (List.mem_of_getElem? hx) v hd⟩
  | h10 => intro v h; exact h
  | h11 => intro v h; exact h
theorem ByteRow.more {w : World} {S S' : Nat → Prop} {A : Option Addr} {l : List UInt8} (h : ByteRow w S A l) (hB : ∀ b, S b → S' b) : ByteRow w S' A l := by
  rcases h with h | ⟨b, off, hA, hb, hc⟩
  · exact .inl h
  · exact .inr ⟨b, off, hA, hB _ hb, hc⟩
theorem RdS.more {w : World} {S S' : Nat → Prop} (hB : ∀ b, S b → S' b) (x : V) : ∀ v, RdS w S x v → RdS w S' x v := by
  induction x using V.ind with
  | h0 => intro v h; exact h
  | h1 b => intro v h; exact h
  | h2 b => intro v h; exact h
  | h3 b => intro v h; exact h
  | h4 b => intro v h; exact h
  | h5 b => rintro v ⟨A, c, h1, h2, h0, h3⟩; exact ⟨A, c, h1, h2, h0, h3.more hB⟩
  | h6 b => intro v h; exact h
  | h7 l ih =>
    rintro v ⟨A, c, h1, h2, h0, h3⟩
    refine ⟨A, c, h1, h2, h0, h3.imp id ?_⟩
    rintro ⟨b, off, hA, hb, hr⟩
    refine ⟨b, off, hA, hB _ hb, RdL.iff.2 fun i x hx => ?_⟩
    obtain ⟨v, hv, hd⟩ := RdL.iff.1 hr i x hx
    exact ⟨v, hv, ih x (List.mem_of_getElem? hx) v hd⟩
  | h8 l ih =>
    rintro v ⟨A, c, h1, h2, h3⟩
    refine ⟨A, c, h1, h2, h3.imp id ?_⟩
    rintro ⟨b, off, hA, hb, hr⟩
    refine ⟨b, off, hA, hB _ hb, RdD.iff.2 fun i x hx => ?_⟩
    obtain ⟨hn, hs, v, hv, hd⟩ := RdD.iff.1 hr i x hx
    exact ⟨hn, hs, v, hv, ih x (List.mem_of_getElem? hx) v hd⟩
  | h9 cls ver l ih =>
    rintro v ⟨b, h1, h2, h3, h4, h5, h6, h7, A, c, h8, h9, h10⟩
    refine ⟨b, h1, hB _ h2, h3, h4, h5, h6, h7, A, c, h8, h9, h10.imp id ?_⟩
    rintro ⟨b, off, hA, hb, hr⟩
    refine ⟨b, off, hA, hB _ hb, RdD.iff.2 fun i x hx => ?_⟩
    obtain ⟨hn, hs, v, hv, hd⟩ := RdD.iff.1 hr i x hx
    exact ⟨hn, hs, v, hv, ih x (List.mem_of_getElem? hx) v hd⟩
  | h10 => intro v h; exact h
  | h11 => intro v h; exact h
abbrev Rd (w : World) (B : Nat) (x : V) (v : Value) : Prop := RdS w (fun b => b < B) x v
theorem Rd.below {w w' : World} {B : Nat} {x : V} {v : Value} (h : Rd w B x v) (hb : Below B w w') : Rd w' B x v := RdS.keep (fun _ hp => hb.cell hp) x v h
theorem Rd.more {w : World} {B B' : Nat} (hB : B ≤ B') (x : V) (v : Value) (h : Rd w B x v) : Rd w B' x v := RdS.more (fun _ h => Nat.lt_of_lt_of_le h hB) x v h
theorem RdS.below {w w' : World} {B : Nat} {x : V} {v : Value} (h : RdS w (fun b => b < B) x v) (hb : Below B w w') : RdS w' (fun b => b < B) x v := RdS.keep (fun _ hp => hb.cell hp) x v h
end Go.Proofs.YtobpkelblpdajaaGreatDoor
/- Small plain things: bytes, names, how a walk spells them. -/
namespace Go.Proofs.YtobpkelblpdajaaGreatDoor
open Go Go.RowKit
def lowB (b : UInt8) : Bool := decide (97 ≤ b.toNat ∧ b.toNat ≤ 122)
def digB (b : UInt8) : Bool := decide (48 ≤ b.toNat ∧ b.toNat ≤ 57)
def inName (b : UInt8) : Bool := lowB b || digB b || (b.toNat == 95)
def nameB (l : List UInt8) : Bool := match l with
  | [] => false
  | c :: r => lowB c && r.all inName && decide (r.length ≤ 31)

theorem nameB_false_of_len {l : List UInt8} (h : l.length < 1 ∨ 32 < l.length) : nameB l = false := by
  cases l with
  | nil => rfl
  | cons c r => simp only [List.length_cons] at h; simp only [nameB]; have : ¬ r.length ≤ 31 := (by omega); simp [this]
def okTo (l : List UInt8) (k : Nat) : Prop := ∀ j, j < k → ∀ c, l[j]? = some c → inName c = true ∧ (j = 0 → lowB c = true)

theorem okTo_zero (l : List UInt8) : okTo l 0 := fun j hj => by omega
theorem okTo_succ {l : List UInt8} {k : Nat} {c : UInt8} (h : okTo l k) (hc : l[k]? = some c) (h1 : inName c = true) (h2 : k = 0 → lowB c = true) : okTo l (k + 1) := by
  intro j hj d hd
  by_cases e : j = k
  · subst e; rw [hc] at hd; injection hd with hd; subst hd; exact ⟨h1, h2⟩
  · exact h j (by omega) d hd
theorem nameB_of_ok {l : List UInt8} (h1 : 1 ≤ l.length) (h2 : l.length ≤ 32) (h : okTo l l.length) : nameB l = true := by
  cases l with
  | nil => simp at h1
  | cons c r =>
    simp only [nameB, Bool.and_eq_true, decide_eq_true_eq, List.all_eq_true]
    refine ⟨⟨(h 0 (by simp) c (by simp)).2 rfl, ?_⟩, by simp at h2; omega⟩
    intro x hx
    obtain ⟨i, hi, e⟩ := List.mem_iff_getElem.1 hx
    exact (h (i + 1) (by simp; omega) x (by simp [e, hi])).1
theorem nameB_bad {l : List UInt8} {k : Nat} {c : UInt8} (hc : l[k]? = some c) (h : inName c = false ∨ (k = 0 ∧ lowB c = false)) : nameB l = false := by
  cases l with
  | nil => rfl
  | cons d r =>
    cases hb : nameB (d :: r) with
    | false => rfl
    | true =>
      simp only [nameB, Bool.and_eq_true, decide_eq_true_eq, List.all_eq_true] at hb
      obtain ⟨⟨a, b⟩, _⟩ := hb
      rcases h with h | ⟨rfl, h⟩
      · cases k with
        | zero =>
          simp at hc; subst hc
          simp [inName, a] at h
        | succ k =>
          have := b c (List.mem_of_getElem? (by simpa using hc))
          rw [this] at h; cases h
      · simp at hc; subst hc; rw [a] at h; cases h
theorem byte_cases (c : UInt8) : (97 ≤ c.toNat ∧ c.toNat ≤ 122) ∨ (48 ≤ c.toNat ∧ c.toNat ≤ 57) ∨ c.toNat = 95 ∨ c.toNat < 48 ∨ (57 < c.toNat ∧ c.toNat < 95) ∨ c.toNat = 96 ∨ 122 < c.toNat := by omega
theorem inName_yes {c : UInt8} (h : (97 ≤ c.toNat ∧ c.toNat ≤ 122) ∨ (48 ≤ c.toNat ∧ c.toNat ≤ 57) ∨ c.toNat = 95) : inName c = true := by
  simp only [inName, lowB, digB, Bool.or_eq_true, decide_eq_true_eq, beq_iff_eq]; omega
theorem inName_no {c : UInt8} (h : c.toNat < 48 ∨ (57 < c.toNat ∧ c.toNat < 95) ∨ c.toNat = 96 ∨ 122 < c.toNat) : inName c = false := by
  cases e : inName c with
  | false => rfl
  | true => simp only [inName, lowB, digB, Bool.or_eq_true, decide_eq_true_eq, beq_iff_eq] at e; omega
theorem lowB_yes {c : UInt8} (h : 97 ≤ c.toNat ∧ c.toNat ≤ 122) : lowB c = true := by simpa [lowB] using h
theorem lowB_no {c : UInt8} (h : ¬ (97 ≤ c.toNat ∧ c.toNat ≤ 122)) : lowB c = false := by simp only [lowB, decide_eq_false_iff_not]; exact h
theorem loop_eq (s : ByteArray) (n i : Nat) (r : List UInt8) (h : s.size - i = n) (hi : i ≤ s.size): ByteArray.toList.loop s i r = r.reverse ++ s.data.toList.drop i := by
  induction n generalizing i r with
  | zero =>
    unfold ByteArray.toList.loop
    rw [if_neg (by omega), List.drop_eq_nil_of_le (by simp; have : s.data.size = s.size := rfl; omega)]
    simp
  | succ n ih =>
    unfold ByteArray.toList.loop
    have hl : i < s.data.toList.length := by simp; have : s.data.size = s.size := rfl; omega
    rw [if_pos (by omega), ih (i+1) _ (by omega) (by omega), List.drop_eq_getElem_cons hl]
    simp [ByteArray.get!, getElem!_pos]
    have : i < s.data.size := by simpa using hl
    simp [Array.getElem!_eq_getD, Array.getD]
    rw [dif_pos (by omega)]
theorem bytes_toList (s : ByteArray) : s.toList = s.data.toList := by
  unfold ByteArray.toList
  rw [loop_eq s _ 0 [] rfl (by omega)]; simp
theorem isEmpty_of {s : ByteArray} (h : 1 ≤ s.size) : s.toList.isEmpty = false := by
  have : s.toList.length = s.size := by rw [bytes_toList]; simp
  cases e : s.toList with
  | nil => rw [e] at this; simp at this; omega
  | cons => rfl
theorem ret_bool {a b : Bool} (h : a = b) : Ending.returned (.bool a) = Ending.returned (.bool b) := by rw [h]
theorem zero_of {s : ByteArray} {h : 0 < s.size} {c d : UInt8} (hd : s[0] = d) (hc : s.data.toList[0]? = some c) : c = d := by
  subst hd
  have : 0 < s.data.toList.length := by simpa using h
  rw [List.getElem?_eq_getElem this] at hc
  injection hc with hc
  rw [← hc]; rfl
theorem get_at (s : ByteArray) (k : Nat) (h : k < s.size) : s.data.toList[k]? = some s[k] := by
  rw [List.getElem?_eq_getElem (by simpa using h)]; rfl
theorem len_list (s : ByteArray) : s.data.toList.length = s.size := by simp
theorem isEmpty_nil {s : ByteArray} (h : s.size = 0) : s.toList.isEmpty = true := by
  rw [bytes_toList, ByteArray.size_eq_zero_iff.1 h]; rfl
theorem below_drewN {B : Nat} {a w : World} (h : Below B a w) (n : Nat) : Below B a (w.drewN n) := ⟨h.os, h.tape, h.output, h.size, h.block⟩
theorem bytes_below (w : World) (e : TypeId) (s : ByteArray) : Below w.heap.size w (Lib.bytesWorld w e s) :=
  ⟨rfl, rfl, rfl, by rw [Lib.bytesWorld_size]; omega, fun k hk => Lib.bytesWorld_at_old w e s k hk⟩
theorem ret_int {k : IntKind} {a b : Int} (h : a = b) : Ending.returned (.int k a) = .returned (.int k b) := by rw [h]
end Go.Proofs.YtobpkelblpdajaaGreatDoor
/- Walks: value.name. -/
namespace Go.Proofs.YtobpkelblpdajaaGreatDoor
open Go Go.RowKit
set_option maxRecDepth 100000 in
set_option maxHeartbeats 400000 in
theorem name_loop (s : ByteArray) (w : World) (h1 : 1 ≤ s.size) (h2 : s.size ≤ 32) (hl : 97 ≤ s[0].toNat ∧ s[0].toNat ≤ 122) :
    Calls Tryz.prog 206 #[.string s] w fun e w' => e = .returned (.bool (nameB s.data.toList)) ∧ Below w.heap.size w w' := by
  have he : s.toList.isEmpty = false := isEmpty_of h1
  obtain ⟨g1, g2⟩ := hl
  have kc := fun (w : World) => Lib.run_convert_string_bytes (P := Tryz.prog) w 9 23 5 s Tryz.underlying9 Tryz.underlying23 Tryz.underlying5
  go_enter Tryz.func206, Tryz.ntmps206
  go_wp2
  clear kc
  have hbel := bytes_below w 5 s
  have hz := Lib.hid (rfl : s[0] = s[0])
  go_loop [4, 25] (fun _ i => ∃ k : Nat, k ≤ s.size ∧ i = .int .i64 k ∧ okTo s.data.toList k) (fun _ i => s.size - (intOf i).toNat)
  case atStart => exact ⟨0, by omega, rfl, okTo_zero _⟩
  case round =>
    obtain ⟨k, hk, rfl, ho⟩ := hrel
    by_cases hlt : k < s.size
    · obtain ⟨c, hc⟩ : ∃ c, s.data.toList[k]? = some c := ⟨_, List.getElem?_eq_getElem (by simpa using hlt)⟩
      have hcell := Lib.bytesWorld_cell w 5 s k hlt
      rw [List.getD_eq_getElem?_getD, hc, Option.getD_some] at hcell
      have H := Lib.hid hc
      have HO := Lib.hid ho
      clear hc ho
      rcases byte_cases c with ⟨q1, q2⟩ | ⟨q1, q2⟩ | q1 | q1 | ⟨q1, q2⟩ | q1 | q1
      · go_wp2
        go_round
        case rel => exact ⟨k + 1, by omega, by go_num, okTo_succ HO.out H.out (inName_yes (by omega)) (fun _ => lowB_yes (by omega))⟩
        case measure => simp [intOf]; omega
      · have hk0 : k ≠ 0 := fun e => by
          subst e
          have hcs := zero_of (rfl : s[0] = s[0]) H.out
          have hct := congrArg UInt8.toNat hcs
          omega
        go_wp2
        go_round
        case rel => exact ⟨k + 1, by omega, by go_num, okTo_succ HO.out H.out (inName_yes (by omega)) (fun e => absurd e hk0)⟩
        case measure => simp [intOf]; omega
      · have hk0 : k ≠ 0 := fun e => by
          subst e
          have hcs := zero_of (rfl : s[0] = s[0]) H.out
          have hct := congrArg UInt8.toNat hcs
          omega
        have HC := Lib.hid q1
        go_wp2
        go_round
        case rel => exact ⟨k + 1, by omega, by go_num, okTo_succ HO.out H.out (inName_yes (by have := HC.out; omega)) (fun e => absurd e hk0)⟩
        case measure => simp [intOf]; omega
      all_goals
        have hf : nameB s.data.toList = false := nameB_bad H.out (.inl (inName_no (by omega)))
        have HF := Lib.hid hf
        clear hf
        have qn : ((c.toNat : Int) != 95) = true := by rw [bne_iff_ne]; omega
        go_wp2
        go_ret
        exact ⟨ret_bool HF.out.symm, hbel⟩
    · obtain rfl : k = s.size := by omega
      have HF := Lib.hid (nameB_of_ok (l := s.data.toList) (by simpa using h1) (by simpa using h2) (by simpa using ho))
      clear ho
      go_wp2
      go_ret
      exact ⟨ret_bool HF.out.symm, hbel⟩
set_option maxRecDepth 100000 in
set_option maxHeartbeats 400000 in
theorem name_any (s : ByteArray) (w : World) (hs : s.size ≤ 140737488351232) :
    Calls Tryz.prog 206 #[.string s] w fun e w' => e = .returned (.bool (nameB s.data.toList)) ∧ Below w.heap.size w w' := by
  by_cases h0 : s.size = 0
  · have he := isEmpty_nil h0
    have HF := Lib.hid (nameB_false_of_len (l := s.data.toList) (.inl (by rw [len_list]; omega)))
    clear h0
    go_enter Tryz.func206, Tryz.ntmps206
    go_wp2
    go_ret
    exact ⟨ret_bool HF.out.symm, Below.refl _ _⟩
  have hpos : 0 < s.size := by omega
  have he := isEmpty_of (s := s) (by omega)
  by_cases h1 : 32 < s.size
  · have HF := Lib.hid (nameB_false_of_len (l := s.data.toList) (.inr (by rw [len_list]; omega)))
    clear h0
    go_enter Tryz.func206, Tryz.ntmps206
    go_wp2
    go_ret
    exact ⟨ret_bool HF.out.symm, Below.refl _ _⟩
  have h2 : s.size ≤ 32 := by omega
  by_cases hl : 97 ≤ s[0].toNat ∧ s[0].toNat ≤ 122
  · exact name_loop s w (by omega) h2 hl
  have HF := Lib.hid (nameB_bad (get_at s 0 hpos) (.inr ⟨rfl, lowB_no hl⟩))
  have hl' : s[0].toNat < 97 ∨ 122 < s[0].toNat := by omega
  clear hl h0 h1
  rcases hl' with q1 | q1
  · go_enter Tryz.func206, Tryz.ntmps206
    go_wp2
    go_ret
    exact ⟨ret_bool HF.out.symm, Below.refl _ _⟩
  · have q2 : 97 ≤ s[0].toNat := by omega
    go_enter Tryz.func206, Tryz.ntmps206
    go_wp2
    go_ret
    exact ⟨ret_bool HF.out.symm, Below.refl _ _⟩
end Go.Proofs.YtobpkelblpdajaaGreatDoor
/- How the walk asks an interface for a type. -/
namespace Go.Proofs.YtobpkelblpdajaaGreatDoor
open Go Go.RowKit
section
variable {P : Program}
theorem run_ta_no (w : World) {t A X : TypeId} {x z : Value} {u : TypeDesc} (hu : P.underlying A = some u) (hi : ∀ ms, u ≠ .interface ms) (hz : (zeroValue A).run P w = .ok z w) (h : t ≠ A) :
    (Instr.typeAssert (.iface t x) X A true).run P w = .ok (.tuple #[z, .bool false]) w := by
  unfold Instr.typeAssert
  cases u <;> simp [run_underlying hu, h, hz, Result.andThen] <;> exact absurd rfl (hi _)
theorem run_ta_yes (w : World) {A X : TypeId} {x : Value} {u : TypeDesc} (hu : P.underlying A = some u) (hi : ∀ ms, u ≠ .interface ms) :
    (Instr.typeAssert (.iface A x) X A true).run P w = .ok (.tuple #[x, .bool true]) w := by
  unfold Instr.typeAssert
  cases u <;> simp [run_underlying hu, Result.andThen] <;> exact absurd rfl (hi _)
theorem run_ta_nil (w : World) {A X : TypeId} {z : Value} {u : TypeDesc} (hu : P.underlying A = some u) (hi : ∀ ms, u ≠ .interface ms) (hz : (zeroValue A).run P w = .ok z w) :
    (Instr.typeAssert .nilIface X A true).run P w = .ok (.tuple #[z, .bool false]) w := by
  unfold Instr.typeAssert
  cases u <;> simp [run_underlying hu, hz, Result.andThen] <;> exact absurd rfl (hi _)
end
section
variable (w : World) (t X : TypeId) (x : Value)
theorem ta_no_bool (h : t ≠ 4) : (Instr.typeAssert (.iface t x) X 4 true).run Tryz.prog w = .ok (.tuple #[.bool false, .bool false]) w := run_ta_no w Tryz.underlying4 (fun _ h => by cases h) (by kernel_rfl) h
theorem ta_yes_bool : (Instr.typeAssert (.iface 4 x) X 4 true).run Tryz.prog w = .ok (.tuple #[x, .bool true]) w := run_ta_yes w Tryz.underlying4 (fun _ h => by cases h)
theorem ta_nil_bool : (Instr.typeAssert .nilIface X 4 true).run Tryz.prog w = .ok (.tuple #[.bool false, .bool false]) w := run_ta_nil w Tryz.underlying4 (fun _ h => by cases h) (by kernel_rfl)
theorem ta_no_int64 (h : t ≠ 2) : (Instr.typeAssert (.iface t x) X 2 true).run Tryz.prog w = .ok (.tuple #[.int .i64 0, .bool false]) w := run_ta_no w Tryz.underlying2 (fun _ h => by cases h) (by kernel_rfl) h
theorem ta_yes_int64 : (Instr.typeAssert (.iface 2 x) X 2 true).run Tryz.prog w = .ok (.tuple #[x, .bool true]) w := run_ta_yes w Tryz.underlying2 (fun _ h => by cases h)
theorem ta_nil_int64 : (Instr.typeAssert .nilIface X 2 true).run Tryz.prog w = .ok (.tuple #[.int .i64 0, .bool false]) w := run_ta_nil w Tryz.underlying2 (fun _ h => by cases h) (by kernel_rfl)
theorem ta_no_flt (h : t ≠ 22) : (Instr.typeAssert (.iface t x) X 22 true).run Tryz.prog w = .ok (.tuple #[.float .f64 0, .bool false]) w := run_ta_no w Tryz.underlying22 (fun _ h => by cases h) (by kernel_rfl) h
theorem ta_yes_flt : (Instr.typeAssert (.iface 22 x) X 22 true).run Tryz.prog w = .ok (.tuple #[x, .bool true]) w := run_ta_yes w Tryz.underlying22 (fun _ h => by cases h)
theorem ta_nil_flt : (Instr.typeAssert .nilIface X 22 true).run Tryz.prog w = .ok (.tuple #[.float .f64 0, .bool false]) w := run_ta_nil w Tryz.underlying22 (fun _ h => by cases h) (by kernel_rfl)
theorem ta_no_str (h : t ≠ 9) : (Instr.typeAssert (.iface t x) X 9 true).run Tryz.prog w = .ok (.tuple #[.string ⟨#[]⟩, .bool false]) w := run_ta_no w Tryz.underlying9 (fun _ h => by cases h) (by kernel_rfl) h
theorem ta_yes_str : (Instr.typeAssert (.iface 9 x) X 9 true).run Tryz.prog w = .ok (.tuple #[x, .bool true]) w := run_ta_yes w Tryz.underlying9 (fun _ h => by cases h)
theorem ta_nil_str : (Instr.typeAssert .nilIface X 9 true).run Tryz.prog w = .ok (.tuple #[.string ⟨#[]⟩, .bool false]) w := run_ta_nil w Tryz.underlying9 (fun _ h => by cases h) (by kernel_rfl)
theorem ta_no_byt (h : t ≠ 23) : (Instr.typeAssert (.iface t x) X 23 true).run Tryz.prog w = .ok (.tuple #[.slice none 0 0, .bool false]) w := run_ta_no w Tryz.underlying23 (fun _ h => by cases h) (by kernel_rfl) h
theorem ta_yes_byt : (Instr.typeAssert (.iface 23 x) X 23 true).run Tryz.prog w = .ok (.tuple #[x, .bool true]) w := run_ta_yes w Tryz.underlying23 (fun _ h => by cases h)
theorem ta_nil_byt : (Instr.typeAssert .nilIface X 23 true).run Tryz.prog w = .ok (.tuple #[.slice none 0 0, .bool false]) w := run_ta_nil w Tryz.underlying23 (fun _ h => by cases h) (by kernel_rfl)
theorem ta_no_ref (h : t ≠ 25) : (Instr.typeAssert (.iface t x) X 25 true).run Tryz.prog w = .ok (.tuple #[.int .u64 0, .bool false]) w := run_ta_no w Tryz.underlying25 (fun _ h => by cases h) (by kernel_rfl) h
theorem ta_yes_ref : (Instr.typeAssert (.iface 25 x) X 25 true).run Tryz.prog w = .ok (.tuple #[x, .bool true]) w := run_ta_yes w Tryz.underlying25 (fun _ h => by cases h)
theorem ta_nil_ref : (Instr.typeAssert .nilIface X 25 true).run Tryz.prog w = .ok (.tuple #[.int .u64 0, .bool false]) w := run_ta_nil w Tryz.underlying25 (fun _ h => by cases h) (by kernel_rfl)
theorem ta_no_lst (h : t ≠ 43) : (Instr.typeAssert (.iface t x) X 43 true).run Tryz.prog w = .ok (.tuple #[.slice none 0 0, .bool false]) w := run_ta_no w Tryz.underlying43 (fun _ h => by cases h) (by kernel_rfl) h
theorem ta_yes_lst : (Instr.typeAssert (.iface 43 x) X 43 true).run Tryz.prog w = .ok (.tuple #[x, .bool true]) w := run_ta_yes w Tryz.underlying43 (fun _ h => by cases h)
theorem ta_nil_lst : (Instr.typeAssert .nilIface X 43 true).run Tryz.prog w = .ok (.tuple #[.slice none 0 0, .bool false]) w := run_ta_nil w Tryz.underlying43 (fun _ h => by cases h) (by kernel_rfl)
theorem ta_no_dct (h : t ≠ 41) : (Instr.typeAssert (.iface t x) X 41 true).run Tryz.prog w = .ok (.tuple #[.slice none 0 0, .bool false]) w := run_ta_no w Tryz.underlying41 (fun _ h => by cases h) (by kernel_rfl) h
theorem ta_yes_dct : (Instr.typeAssert (.iface 41 x) X 41 true).run Tryz.prog w = .ok (.tuple #[x, .bool true]) w := run_ta_yes w Tryz.underlying41 (fun _ h => by cases h)
theorem ta_nil_dct : (Instr.typeAssert .nilIface X 41 true).run Tryz.prog w = .ok (.tuple #[.slice none 0 0, .bool false]) w := run_ta_nil w Tryz.underlying41 (fun _ h => by cases h) (by kernel_rfl)
theorem ta_no_rec (h : t ≠ 32) : (Instr.typeAssert (.iface t x) X 32 true).run Tryz.prog w = .ok (.tuple #[.pointer none, .bool false]) w := run_ta_no w Tryz.underlying32 (fun _ h => by cases h) (by kernel_rfl) h
theorem ta_yes_rec : (Instr.typeAssert (.iface 32 x) X 32 true).run Tryz.prog w = .ok (.tuple #[x, .bool true]) w := run_ta_yes w Tryz.underlying32 (fun _ h => by cases h)
theorem ta_nil_rec : (Instr.typeAssert .nilIface X 32 true).run Tryz.prog w = .ok (.tuple #[.pointer none, .bool false]) w := run_ta_nil w Tryz.underlying32 (fun _ h => by cases h) (by kernel_rfl)
end
end Go.Proofs.YtobpkelblpdajaaGreatDoor
/- Walks: value.kind. -/
namespace Go.Proofs.YtobpkelblpdajaaGreatDoor
open Go Go.RowKit
attribute [local go_sem] ta_no_bool ta_yes_bool ta_nil_bool ta_no_int64 ta_yes_int64 ta_nil_int64 ta_no_flt ta_yes_flt ta_nil_flt ta_no_str ta_yes_str ta_nil_str ta_no_byt ta_yes_byt ta_nil_byt ta_no_ref ta_yes_ref ta_nil_ref ta_no_lst ta_yes_lst ta_nil_lst ta_no_dct ta_yes_dct ta_nil_dct ta_no_rec ta_yes_rec ta_nil_rec
def kindV : V → Nat
  | .nil => 1
  | .bool _ => 2
  | .int _ => 3
  | .flt _ => 4
  | .text _ => 5
  | .bytes _ => 6
  | .ref _ => 7
  | .list _ => 8
  | .dict _ => 9
  | .record _ _ _ => 10
  | .nothing => 11
  | .alien => 0
theorem alienT_ne {t : TypeId} (h : alienT t = true) : t ≠ 4 ∧ t ≠ 2 ∧ t ≠ 22 ∧ t ≠ 9 ∧ t ≠ 23 ∧ t ≠ 25 ∧ t ≠ 43 ∧ t ≠ 41 ∧ t ≠ 32 := by
  simpa [alienT, and_assoc] using h
set_option maxRecDepth 100000 in
set_option maxHeartbeats 400000 in
theorem kind_nil (w : World) : Calls Tryz.prog 88 #[.nilIface] w fun e w' => e = .returned (.int .i64 1) ∧ w = w' := by
  go_enter Tryz.func88, Tryz.ntmps88
  go_wp2
  go_ret
  exact ⟨rfl, rfl⟩
set_option maxRecDepth 100000 in
set_option maxHeartbeats 400000 in
theorem kind_bool (b : Bool) (w : World) : Calls Tryz.prog 88 #[.iface 4 (.bool b)] w fun e w' => e = .returned (.int .i64 2) ∧ w = w' := by
  go_enter Tryz.func88, Tryz.ntmps88
  go_wp2
  go_ret
  exact ⟨rfl, rfl⟩
set_option maxRecDepth 100000 in
set_option maxHeartbeats 400000 in
theorem kind_int (n : Int) (w : World) : Calls Tryz.prog 88 #[.iface 2 (.int .i64 n)] w fun e w' => e = .returned (.int .i64 3) ∧ w = w' := by
  go_enter Tryz.func88, Tryz.ntmps88
  go_wp2
  go_ret
  exact ⟨rfl, rfl⟩
set_option maxRecDepth 100000 in
set_option maxHeartbeats 400000 in
theorem kind_flt (n : Nat) (w : World) : Calls Tryz.prog 88 #[.iface 22 (.float .f64 n)] w fun e w' => e = .returned (.int .i64 4) ∧ w = w' := by
  go_enter Tryz.func88, Tryz.ntmps88
  go_wp2
  go_ret
  exact ⟨rfl, rfl⟩
set_option maxRecDepth 100000 in
set_option maxHeartbeats 400000 in
theorem kind_text (s : ByteArray) (w : World) : Calls Tryz.prog 88 #[.iface 9 (.string s)] w fun e w' => e = .returned (.int .i64 5) ∧ w = w' := by
  go_enter Tryz.func88, Tryz.ntmps88
  go_wp2
  go_ret
  exact ⟨rfl, rfl⟩
set_option maxRecDepth 100000 in
set_option maxHeartbeats 400000 in
theorem kind_bytes (A : Option Addr) (n c : Nat) (w : World) : Calls Tryz.prog 88 #[.iface 23 (.slice A n c)] w fun e w' => e = .returned (.int .i64 6) ∧ w = w' := by
  go_enter Tryz.func88, Tryz.ntmps88
  go_wp2
  go_ret
  exact ⟨rfl, rfl⟩
set_option maxRecDepth 100000 in
set_option maxHeartbeats 400000 in
theorem kind_ref (n : Int) (w : World) : Calls Tryz.prog 88 #[.iface 25 (.int .u64 n)] w fun e w' => e = .returned (.int .i64 7) ∧ w = w' := by
  go_enter Tryz.func88, Tryz.ntmps88
  go_wp2
  go_ret
  exact ⟨rfl, rfl⟩
set_option maxRecDepth 100000 in
set_option maxHeartbeats 400000 in
theorem kind_list (A : Option Addr) (n c : Nat) (w : World) : Calls Tryz.prog 88 #[.iface 43 (.slice A n c)] w fun e w' => e = .returned (.int .i64 8) ∧ w = w' := by
  go_enter Tryz.func88, Tryz.ntmps88
  go_wp2
  go_ret
  exact ⟨rfl, rfl⟩
set_option maxRecDepth 100000 in
set_option maxHeartbeats 400000 in
theorem kind_dict (A : Option Addr) (n c : Nat) (w : World) : Calls Tryz.prog 88 #[.iface 41 (.slice A n c)] w fun e w' => e = .returned (.int .i64 9) ∧ w = w' := by
  go_enter Tryz.func88, Tryz.ntmps88
  go_wp2
  go_ret
  exact ⟨rfl, rfl⟩
set_option maxRecDepth 100000 in
set_option maxHeartbeats 400000 in
theorem kind_record (a : Addr) (w : World) : Calls Tryz.prog 88 #[.iface 32 (.pointer (some a))] w fun e w' => e = .returned (.int .i64 10) ∧ w = w' := by
  go_enter Tryz.func88, Tryz.ntmps88
  go_wp2
  go_ret
  exact ⟨rfl, rfl⟩
set_option maxRecDepth 100000 in
set_option maxHeartbeats 400000 in
theorem kind_nothing (w : World) : Calls Tryz.prog 88 #[.iface 32 (.pointer none)] w fun e w' => e = .returned (.int .i64 11) ∧ w = w' := by
  go_enter Tryz.func88, Tryz.ntmps88
  go_wp2
  go_ret
  exact ⟨rfl, rfl⟩
set_option maxRecDepth 100000 in
set_option maxHeartbeats 400000 in
theorem kind_alien (t : TypeId) (x : Value) (w : World) (ht : alienT t = true) : Calls Tryz.prog 88 #[.iface t x] w fun e w' => e = .returned (.int .i64 0) ∧ w = w' := by
  obtain ⟨a1, a2, a3, a4, a5, a6, a7, a8, a9⟩ := alienT_ne ht
  clear ht
  go_enter Tryz.func88, Tryz.ntmps88
  go_wp2
  go_ret
  exact ⟨rfl, rfl⟩
theorem kind_any (x : V) (v : Value) (B : Nat) (w : World) (h : Rd w B x v) : Calls Tryz.prog 88 #[v] w fun e w' => e = .returned (.int .i64 (kindV x)) ∧ w = w' := by
  cases x with
  | nil => subst h; exact kind_nil w
  | bool b => subst h; exact kind_bool b w
  | int n => obtain ⟨rfl, _⟩ := h; exact kind_int n w
  | flt n => subst h; exact kind_flt n w
  | text s => obtain ⟨rfl, _⟩ := h; exact kind_text s w
  | bytes l => obtain ⟨A, c, rfl, _⟩ := h; exact kind_bytes A _ c w
  | ref n => obtain ⟨rfl, _⟩ := h; exact kind_ref n w
  | list l => obtain ⟨A, c, rfl, _⟩ := h; exact kind_list A _ c w
  | dict l => obtain ⟨A, c, rfl, _⟩ := h; exact kind_dict A _ c w
  | record a b c => obtain ⟨b, rfl, _⟩ := h; exact kind_record _ w
  | nothing => subst h; exact kind_nothing w
  | alien => obtain ⟨t, x, rfl, ht⟩ := h; exact kind_alien t x w ht
end Go.Proofs.YtobpkelblpdajaaGreatDoor
