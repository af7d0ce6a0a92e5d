/- Walks: value.check, value.Check. -/
import Derived.Test.YtobpkelblpdajaaGreatDoorTX05
set_option linter.unusedVariables false
set_option linter.unusedSimpArgs false
set_option linter.unusedSectionVars false
namespace Go.Proofs.YtobpkelblpdajaaGreatDoor
open Go Go.RowKit
noncomputable def checkV (x : V) : Nat × Nat := if (partV x 1 ⟨0, 0, 0⟩).1 = true then (0, 0) else ((partV x 1 ⟨0, 0, 0⟩).2.n, (partV x 1 ⟨0, 0, 0⟩).2.why)
theorem checkV_yes {x : V} (h : (partV x 1 ⟨0, 0, 0⟩).1 = true) : checkV x = (0, 0) := by unfold checkV; rw [if_pos h]
theorem checkV_no {x : V} (h : (partV x 1 ⟨0, 0, 0⟩).1 = false) : checkV x = ((partV x 1 ⟨0, 0, 0⟩).2.n, (partV x 1 ⟨0, 0, 0⟩).2.why) := by unfold checkV; rw [if_neg (by rw [h]; simp)]
def CheckPost (x : V) (w : World) (e : Ending) (w' : World) : Prop := e = .returned (.tuple #[.int .i64 (checkV x).1, .int .i64 (checkV x).2]) ∧ Below w.heap.size w w'
theorem cnt_new (w : World) (t : TypeId) : CntAt (w.alloc (.cells #[.int .i64 0, .int .i64 0, .int .i64 0] t)) w.heap.size ⟨0, 0, 0⟩ := by
  refine ⟨⟨?_, ?_⟩, ⟨?_, ?_⟩, ⟨?_, ?_⟩⟩ <;> simp [go_sem]
set_option maxRecDepth 100000 in
set_option maxHeartbeats 1000000 in
theorem check_any (x : V) (v : Value) (w : World) (h : Rd w w.heap.size x v) : Calls Tryz.prog 48 #[v] w (CheckPost x w) := by
  have hb0 : Below w.heap.size w (w.alloc (.cells #[.int .i64 0, .int .i64 0, .int .i64 0] 175)) := (Below.refl _ _).alloc (Nat.le_refl _) _
  have HP := Lib.hid (part_any x v 1 ⟨0, 0, 0⟩ _ w.heap.size w.heap.size (h.below hb0) (Nat.le_refl _) (by simp [go_sem]) (by omega) (cnt_new w 175))
  have HB := Lib.hid hb0
  cases hq : (partV x 1 ⟨0, 0, 0⟩).1
  · have HF := Lib.hid (checkV_no hq)
    generalize partV x 1 ⟨0, 0, 0⟩ = r at *
    clear h hb0
    go_enter Tryz.func48, Tryz.ntmps48
    go_wp2_with fail
    refine HP.out.mono ?_
    rintro e w1 ⟨rfl, hb1, hc1⟩
    obtain ⟨⟨a1, a2⟩, ⟨b1, b2⟩, ⟨c1, c2⟩⟩ := hc1
    go_wp2_with fail
    go_quiet (fail)
    go_wp2
    go_ret2
    exact ⟨by rw [HF.out]; rfl, below_drewN (HB.out.trans hb1) _⟩
  · have HF := Lib.hid (checkV_yes hq)
    generalize partV x 1 ⟨0, 0, 0⟩ = r at *
    clear h hb0
    go_enter Tryz.func48, Tryz.ntmps48
    go_wp2_with fail
    refine HP.out.mono ?_
    rintro e w1 ⟨rfl, hb1, hc1⟩
    go_wp2
    go_ret2
    exact ⟨by rw [HF.out]; rfl, HB.out.trans hb1⟩
set_option maxRecDepth 100000 in
set_option maxHeartbeats 1000000 in
theorem check_out (x : V) (v : Value) (w : World) (h : Rd w w.heap.size x v) : Calls Tryz.prog 13 #[v] w (CheckPost x w) := by
  have HP := Lib.hid (check_any x v w h)
  clear h
  go_enter Tryz.func13, Tryz.ntmps13
  go_wp2_with fail
  refine HP.out.mono ?_
  rintro e w1 ⟨rfl, hb1⟩
  go_wp2
  go_ret2
  exact ⟨rfl, hb1⟩
end Go.Proofs.YtobpkelblpdajaaGreatDoor
/- Terms and expressions by what they hold; how memory bears them. -/
namespace Go.Proofs.YtobpkelblpdajaaGreatDoor
open Go Go.RowKit
inductive Tm where
  | mk (kind : Int) (b : Bool) (i : Int) (f : Nat) (t : ByteArray) (bs : List UInt8) (r : Int) (l : List Tm) (d : List (ByteArray × Tm)) (c : ByteArray) (v : Int)
theorem Tm.ind {P : Tm → Prop} (h : ∀ k b i f t bs r l d c v, (∀ x ∈ l, P x) → (∀ p ∈ d, P p.2) → P (.mk k b i f t bs r l d c v)) : ∀ x, P x := by
  intro x
  exact Tm.rec (motive_1 := P) (motive_2 := fun l => ∀ x ∈ l, P x) (motive_3 := fun l => ∀ p ∈ l, P p.2) (motive_4 := fun p => P p.2) (fun k b i f t bs r l d c v hl hd => h k b i f t bs r l d c v hl hd)
    (by simp) (fun x r hx hr => by simp; exact ⟨hx, hr⟩) (by simp) (fun p r hp hr => by
      intro q hq; rcases List.mem_cons.1 hq with rfl | hq
      · exact hp
      · exact hr q hq) (fun n v h => h) x
def i64B (n : Int) : Prop := -9223372036854775808 ≤ n ∧ n ≤ 9223372036854775807
/- Cells that lie one behind the other. -/
def Lie (w : World) (b off : Nat) (x : List Value) : Prop := ∀ j y, x[j]? = some y → w.cell? ⟨b, off + j, none⟩ = some y
theorem Lie.keep {w w' : World} {b off : Nat} {x : List Value} (h : Lie w b off x) (hk : ∀ p : Addr, p.block = b → w'.cell? p = w.cell? p) : Lie w' b off x := fun j y hj => (hk _ rfl).trans (h j y hj)
mutual
def RdTS (w : World) (S : Nat → Prop) : Tm → List Value → Prop
  | .mk k b i f t bs r l d c v, x => ∃ Ab cb Al cl Ad cd, x = [.int .i64 k, .bool b, .int .i64 i, .float .f64 f, .string t, .slice Ab bs.length cb, .int .u64 r, .slice Al l.length cl, .slice Ad d.length cd, .string c, .int .i64 v] ∧
      i64B k ∧ i64B i ∧ t.size ≤ 140737488351232 ∧ bs.length ≤ 140737488351232 ∧ ((Ab = none → cb = 0) ∧ ByteRow w S Ab bs) ∧ 0 ≤ r ∧ r ≤ 18446744073709551615 ∧ c.size ≤ 140737488351232 ∧ i64B v ∧
      (l.length * 152 ≤ 140737488351232 ∧ (l = [] ∨ ∃ b off, Al = some ⟨b, off, none⟩ ∧ S b ∧ RdTL w S b off l)) ∧ (d.length * 168 ≤ 140737488351232 ∧ (d = [] ∨ ∃ b off, Ad = some ⟨b, off, none⟩ ∧ S b ∧ RdTD w S b off d))
def RdTL (w : World) (S : Nat → Prop) (b : Nat) : Nat → List Tm → Prop
  | _, [] => True
  | off, x :: r => (∃ v, Lie w b off v ∧ RdTS w S x v) ∧ RdTL w S b (off + 11) r
def RdTD (w : World) (S : Nat → Prop) (b : Nat) : Nat → List (ByteArray × Tm) → Prop
  | _, [] => True
  | off, (n, x) :: r => (w.cell? ⟨b, off, none⟩ = some (.string n) ∧ n.size ≤ 140737488351232 ∧ ∃ v, Lie w b (off + 1) v ∧ RdTS w S x v) ∧ RdTD w S b (off + 12) r
end
theorem RdTL.iff {w : World} {S : Nat → Prop} {b : Nat} {l : List Tm} : ∀ {off : Nat}, RdTL w S b off l ↔ ∀ (i : Nat) x, l[i]? = some x → ∃ v, Lie w b (off + i * 11) v ∧ RdTS w S x v := by
  induction l with
  | nil => intro off; simp [RdTL]
  | cons x r ih =>
    intro off
    rw [RdTL, ih]
    constructor
    · rintro ⟨h0, h⟩ i y hy
      cases i with
      | zero => simp at hy; subst hy; simpa using h0
      | succ i => obtain ⟨v, hv, hd⟩ := h i y (by simpa using hy); exact ⟨v, by rw [show off + (i + 1) * 11 = off + 11 + i * 11 by omega]; exact hv, hd⟩
    · intro h
      refine ⟨by simpa using h 0 x rfl, fun i y hy => ?_⟩
      obtain ⟨v, hv, hd⟩ := h (i + 1) y (by simpa using hy)
      exact ⟨v, by rw [show off + 11 + i * 11 = off + (i + 1) * 11 by omega]; exact hv, hd⟩
theorem RdTD.iff {w : World} {S : Nat → Prop} {b : Nat} {l : List (ByteArray × Tm)} : ∀ {off : Nat}, RdTD w S b off l ↔ ∀ (i : Nat) (p : ByteArray × Tm), l[i]? = some p → w.cell? ⟨b, off + i * 12, none⟩ = some (.string p.1) ∧ p.1.size ≤ 140737488351232 ∧ ∃ v, Lie w b (off + i * 12 + 1) v ∧ RdTS w S p.2 v := by
  induction l with
  | nil => intro off; simp [RdTD]
  | cons x r ih =>
    obtain ⟨n, x⟩ := x
    intro off
    rw [RdTD, ih]
    constructor
    · rintro ⟨h0, h⟩ i y hy
      cases i with
      | zero => simp at hy; subst hy; simpa using h0
      | succ i =>
        have := h i y (by simpa using hy)
        rw [show off + 12 + i * 12 = off + (i + 1) * 12 by omega] at this
        exact this
    · intro h
      refine ⟨by simpa using h 0 (n, x) rfl, fun i y hy => ?_⟩
      have := h (i + 1) y (by simpa using hy)
      rw [show off + (i + 1) * 12 = off + 12 + i * 12 by omega] at this
      exact this
theorem RdTS.keep {w w' : World} {S : Nat → Prop} (hk : ∀ p : Addr, S p.block → w'.cell? p = w.cell? p) (x : Tm) : ∀ v, RdTS w S x v → RdTS w' S x v := by
  induction x using Tm.ind with
  | h k b i f t bs r l d c v ihl ihd =>
    rintro x ⟨Ab, cb, Al, cl, Ad, cd, h1, h2, h3, h4, h5, h6, h7, h8, h9, h10, ⟨h11, h12⟩, ⟨h13, h14⟩⟩
    refine ⟨Ab, cb, Al, cl, Ad, cd, h1, h2, h3, h4, h5, ⟨h6.1, h6.2.keep hk⟩, h7, h8, h9, h10, ⟨h11, h12.imp id ?_⟩, ⟨h13, h14.imp id ?_⟩⟩
    · rintro ⟨b, off, hA, hb, hr⟩
      refine ⟨b, off, hA, hb, RdTL.iff.2 fun i x hx => ?_⟩
      obtain ⟨v, hv, hd⟩ := RdTL.iff.1 hr i x hx
      exact ⟨v, hv.keep (fun p hp => hk p (by rw [hp]; exact hb)), ihl x (List.mem_of_getElem? hx) v hd⟩
    · rintro ⟨b, off, hA, hb, hr⟩
      refine ⟨b, off, hA, hb, RdTD.iff.2 fun i x hx => ?_⟩
      obtain ⟨hn, hs, v, hv, hd⟩ := RdTD.iff.1 hr i x hx
      exact ⟨(hk _ hb).trans hn, hs, v, hv.keep (fun p hp => hk p (by rw [hp]; exact hb)), ihd x (List.mem_of_getElem? hx) v hd⟩
theorem RdTS.more {w : World} {S S' : Nat → Prop} (hB : ∀ b, S b → S' b) (x : Tm) : ∀ v, RdTS w S x v → RdTS w S' x v := by
  induction x using Tm.ind with
  | h k b i f t bs r l d c v ihl ihd =>
    rintro x ⟨Ab, cb, Al, cl, Ad, cd, h1, h2, h3, h4, h5, h6, h7, h8, h9, h10, ⟨h11, h12⟩, ⟨h13, h14⟩⟩
    refine ⟨Ab, cb, Al, cl, Ad, cd, h1, h2, h3, h4, h5, ⟨h6.1, h6.2.more hB⟩, h7, h8, h9, h10, ⟨h11, h12.imp id ?_⟩, ⟨h13, h14.imp id ?_⟩⟩
    · rintro ⟨b, off, hA, hb, hr⟩
      refine ⟨b, off, hA, hB _ hb, RdTL.iff.2 fun i x hx => ?_⟩
      obtain ⟨v, hv, hd⟩ := RdTL.iff.1 hr i x hx
      exact ⟨v, hv, ihl x (List.mem_of_getElem? hx) v hd⟩
    · rintro ⟨b, off, hA, hb, hr⟩
      refine ⟨b, off, hA, hB _ hb, RdTD.iff.2 fun i x hx => ?_⟩
      obtain ⟨hn, hs, v, hv, hd⟩ := RdTD.iff.1 hr i x hx
      exact ⟨hn, hs, v, hv, ihd x (List.mem_of_getElem? hx) v hd⟩
abbrev RdT (w : World) (B : Nat) (x : Tm) (v : List Value) : Prop := RdTS w (fun b => b < B) x v
theorem RdT.below {w w' : World} {B : Nat} {x : Tm} {v : List Value} (h : RdT w B x v) (hb : Below B w w') : RdT w' B x v := RdTS.keep (fun _ hp => hb.cell hp) x v h
theorem RdT.more {w : World} {B B' : Nat} (hB : B ≤ B') (x : Tm) (v : List Value) (h : RdT w B x v) : RdT w B' x v := RdTS.more (fun _ h => Nat.lt_of_lt_of_le h hB) x v h
theorem RdTS.below {w w' : World} {B : Nat} {x : Tm} {v : List Value} (h : RdTS w (fun b => b < B) x v) (hb : Below B w w') : RdT w' B x v := RdTS.keep (fun _ hp => hb.cell hp) x v h
def TermsAt (w : World) (B : Nat) (A : Option Addr) (l : List Tm) : Prop := l = [] ∨ ∃ b off, A = some ⟨b, off, none⟩ ∧ b < B ∧ RdTL w (fun b => b < B) b off l
def EntsAt (w : World) (B : Nat) (A : Option Addr) (l : List (ByteArray × Tm)) : Prop := l = [] ∨ ∃ b off, A = some ⟨b, off, none⟩ ∧ b < B ∧ RdTD w (fun b => b < B) b off l
theorem TermsAt.below {w w' : World} {B : Nat} {A : Option Addr} {l : List Tm} (h : TermsAt w B A l) (hb : Below B w w') : TermsAt w' B A l := by
  refine h.imp id ?_
  rintro ⟨b, off, hA, hB, hr⟩
  refine ⟨b, off, hA, hB, RdTL.iff.2 fun i x hx => ?_⟩
  obtain ⟨v, hv, hd⟩ := RdTL.iff.1 hr i x hx
  exact ⟨v, hv.keep (fun p hp => hb.cell (by rw [hp]; exact hB)), hd.below hb⟩
theorem EntsAt.below {w w' : World} {B : Nat} {A : Option Addr} {l : List (ByteArray × Tm)} (h : EntsAt w B A l) (hb : Below B w w') : EntsAt w' B A l := by
  refine h.imp id ?_
  rintro ⟨b, off, hA, hB, hr⟩
  refine ⟨b, off, hA, hB, RdTD.iff.2 fun i x hx => ?_⟩
  obtain ⟨hn, hs, v, hv, hd⟩ := RdTD.iff.1 hr i x hx
  exact ⟨(hb.cell hB).trans hn, hs, v, hv.keep (fun p hp => hb.cell (by rw [hp]; exact hB)), hd.below hb⟩
theorem TermsAt.more {w : World} {B B' : Nat} {A : Option Addr} {l : List Tm} (h : TermsAt w B A l) (hB : B ≤ B') : TermsAt w B' A l := by
  refine h.imp id ?_
  rintro ⟨b, off, hA, hb, hr⟩
  refine ⟨b, off, hA, by omega, RdTL.iff.2 fun i x hx => ?_⟩
  obtain ⟨v, hv, hd⟩ := RdTL.iff.1 hr i x hx
  exact ⟨v, hv, RdT.more hB _ _ hd⟩
theorem EntsAt.more {w : World} {B B' : Nat} {A : Option Addr} {l : List (ByteArray × Tm)} (h : EntsAt w B A l) (hB : B ≤ B') : EntsAt w B' A l := by
  refine h.imp id ?_
  rintro ⟨b, off, hA, hb, hr⟩
  refine ⟨b, off, hA, by omega, RdTD.iff.2 fun i x hx => ?_⟩
  obtain ⟨hn, hs, v, hv, hd⟩ := RdTD.iff.1 hr i x hx
  exact ⟨hn, hs, v, hv, RdT.more hB _ _ hd⟩
theorem TermsAt.at_ {w : World} {B : Nat} {A : Option Addr} {l : List Tm} (h : TermsAt w B A l) {k : Nat} (hk : k < l.length) : ∃ b off, A = some ⟨b, off, none⟩ ∧ b < B ∧ RdTL w (fun b => b < B) b off l := by
  rcases h with h | h
  · subst h; simp at hk
  · exact h
theorem EntsAt.at_ {w : World} {B : Nat} {A : Option Addr} {l : List (ByteArray × Tm)} (h : EntsAt w B A l) {k : Nat} (hk : k < l.length) : ∃ b off, A = some ⟨b, off, none⟩ ∧ b < B ∧ RdTD w (fun b => b < B) b off l := by
  rcases h with h | h
  · subst h; simp at hk
  · exact h
/- Expressions. -/
inductive Ex where
  | mk (op : ByteArray) (at_ : Int) (parts : List Ex) (name : ByteArray) (val : Tm)
theorem Ex.ind {P : Ex → Prop} (h : ∀ op a l n t, (∀ x ∈ l, P x) → P (.mk op a l n t)) : ∀ x, P x := by
  intro x
  exact Ex.rec (motive_1 := P) (motive_2 := fun l => ∀ x ∈ l, P x) (fun op a l n t hl => h op a l n t hl) (by simp) (fun x r hx hr => by simp; exact ⟨hx, hr⟩) x
mutual
def RdES (w : World) (S : Nat → Prop) : Ex → List Value → Prop
  | .mk op a l n t, x => ∃ A c y, x = .string op :: .int .i64 a :: .slice A l.length c :: .string n :: y ∧ op.size ≤ 140737488351232 ∧ i64B a ∧ n.size ≤ 140737488351232 ∧ RdTS w S t y ∧
      (l.length * 216 ≤ 140737488351232 ∧ (l = [] ∨ ∃ b off, A = some ⟨b, off, none⟩ ∧ S b ∧ RdEL w S b off l))
def RdEL (w : World) (S : Nat → Prop) (b : Nat) : Nat → List Ex → Prop
  | _, [] => True
  | off, x :: r => (∃ v, Lie w b off v ∧ RdES w S x v) ∧ RdEL w S b (off + 15) r
end
theorem RdEL.iff {w : World} {S : Nat → Prop} {b : Nat} {l : List Ex} : ∀ {off : Nat}, RdEL w S b off l ↔ ∀ (i : Nat) x, l[i]? = some x → ∃ v, Lie w b (off + i * 15) v ∧ RdES w S x v := by
  induction l with
  | nil => intro off; simp [RdEL]
  | cons x r ih =>
    intro off
    rw [RdEL, ih]
    constructor
    · rintro ⟨h0, h⟩ i y hy
      cases i with
      | zero => simp at hy; subst hy; simpa using h0
      | succ i => obtain ⟨v, hv, hd⟩ := h i y (by simpa using hy); exact ⟨v, by rw [show off + (i + 1) * 15 = off + 15 + i * 15 by omega]; exact hv, hd⟩
    · intro h
      refine ⟨by simpa using h 0 x rfl, fun i y hy => ?_⟩
      obtain ⟨v, hv, hd⟩ := h (i + 1) y (by simpa using hy)
      exact ⟨v, by rw [show off + 15 + i * 15 = off + (i + 1) * 15 by omega]; exact hv, hd⟩
theorem RdES.keep {w w' : World} {S : Nat → Prop} (hk : ∀ p : Addr, S p.block → w'.cell? p = w.cell? p) (x : Ex) : ∀ v, RdES w S x v → RdES w' S x v := by
  induction x using Ex.ind with
  | h op a l n t ih =>
    rintro x ⟨A, c, y, h1, h2, h3, h4, h5, h6, h7⟩
    refine ⟨A, c, y, h1, h2, h3, h4, RdTS.keep hk _ _ h5, h6, h7.imp id ?_⟩
    rintro ⟨b, off, hA, hb, hr⟩
    refine ⟨b, off, hA, hb, RdEL.iff.2 fun i x hx => ?_⟩
    obtain ⟨v, hv, hd⟩ := RdEL.iff.1 hr i x hx
    exact ⟨v, hv.keep (fun p hp => hk p (by rw [hp]; exact hb)), ih x (List.mem_of_getElem? hx) v hd⟩
theorem RdES.more {w : World} {S S' : Nat → Prop} (hB : ∀ b, S b → S' b) (x : Ex) : ∀ v, RdES w S x v → RdES w S' x v := by
  induction x using Ex.ind with
  | h op a l n t ih =>
    rintro x ⟨A, c, y, h1, h2, h3, h4, h5, h6, h7⟩
    refine ⟨A, c, y, h1, h2, h3, h4, RdTS.more hB _ _ h5, h6, h7.imp id ?_⟩
    rintro ⟨b, off, hA, hb, hr⟩
    refine ⟨b, off, hA, hB _ hb, RdEL.iff.2 fun i x hx => ?_⟩
    obtain ⟨v, hv, hd⟩ := RdEL.iff.1 hr i x hx
    exact ⟨v, hv, ih x (List.mem_of_getElem? hx) v hd⟩
abbrev RdE (w : World) (B : Nat) (x : Ex) (v : List Value) : Prop := RdES w (fun b => b < B) x v
theorem RdE.below {w w' : World} {B : Nat} {x : Ex} {v : List Value} (h : RdE w B x v) (hb : Below B w w') : RdE w' B x v := RdES.keep (fun _ hp => hb.cell hp) x v h
theorem RdE.more {w : World} {B B' : Nat} (hB : B ≤ B') (x : Ex) (v : List Value) (h : RdE w B x v) : RdE w B' x v := RdES.more (fun _ h => Nat.lt_of_lt_of_le h hB) x v h
def ExsAt (w : World) (B : Nat) (A : Option Addr) (l : List Ex) : Prop := l = [] ∨ ∃ b off, A = some ⟨b, off, none⟩ ∧ b < B ∧ RdEL w (fun b => b < B) b off l
theorem ExsAt.below {w w' : World} {B : Nat} {A : Option Addr} {l : List Ex} (h : ExsAt w B A l) (hb : Below B w w') : ExsAt w' B A l := by
  refine h.imp id ?_
  rintro ⟨b, off, hA, hB, hr⟩
  refine ⟨b, off, hA, hB, RdEL.iff.2 fun i x hx => ?_⟩
  obtain ⟨v, hv, hd⟩ := RdEL.iff.1 hr i x hx
  exact ⟨v, hv.keep (fun p hp => hb.cell (by rw [hp]; exact hB)), RdE.below hd hb⟩
theorem ExsAt.more {w : World} {B B' : Nat} {A : Option Addr} {l : List Ex} (h : ExsAt w B A l) (hB : B ≤ B') : ExsAt w B' A l := by
  refine h.imp id ?_
  rintro ⟨b, off, hA, hb, hr⟩
  refine ⟨b, off, hA, by omega, RdEL.iff.2 fun i x hx => ?_⟩
  obtain ⟨v, hv, hd⟩ := RdEL.iff.1 hr i x hx
  exact ⟨v, hv, RdE.more hB _ _ hd⟩
theorem ExsAt.at_ {w : World} {B : Nat} {A : Option Addr} {l : List Ex} (h : ExsAt w B A l) {k : Nat} (hk : k < l.length) : ∃ b off, A = some ⟨b, off, none⟩ ∧ b < B ∧ RdEL w (fun b => b < B) b off l := by
  rcases h with h | h
  · subst h; simp at hk
  · exact h
/- The two values as a call hands them. -/
def termOf (x : List Value) : Value := .agg x.toArray
end Go.Proofs.YtobpkelblpdajaaGreatDoor
