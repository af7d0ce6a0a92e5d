/- Slices that a call owns, and what lies in them. -/
import Derived.Test.YtobpkelblpdajaaGreatDoorTX06
import Derived.Deep.AppendLies
import Derived.Deep.DeepMust
import Derived.Test.YtobpkelblpdajaaGreatDoorTX03
import Derived.OrdersHeld
set_option linter.unusedVariables false
set_option linter.unusedSimpArgs false
set_option linter.unusedSectionVars false
namespace Go.Proofs.YtobpkelblpdajaaGreatDoor
open Go Go.RowKit
/- The blocks from B on, below the world's end, but for one. -/
def Fresh (F : Nat → Prop) (w : World) (v : Value) (b : Nat) : Prop := F b ∧ b < w.heap.size ∧ v.ownBlock ≠ some b
def OwnV (F : Nat → Prop) (w : World) (B : Nat) (v : Value) (l : List V) : Prop :=
  ∃ xs, w.ownsRow B 20 1 v l.length xs ∧ ∀ (i : Nat) (x : V), l[i]? = some x → ∃ u, xs[i]? = some u ∧ RdS w (Fresh F w v) x u
theorem ownsRow_below {w w' : World} {B : Nat} {e : TypeId} {size : Nat} {v : Value} {n : Nat} {xs : List Value} (h : w.ownsRow B e size v n xs) (hb : Below w.heap.size w w') : w'.ownsRow B e size v n xs := by
  refine ⟨h.1, ?_⟩
  rcases h.2 with hn | ⟨g, cap, cur, rfl, hg, hgg, rest⟩
  · exact .inl hn
  · exact .inr ⟨g, cap, cur, rfl, hg, by rw [hb.block g (Array.getElem?_eq_some_iff.1 hgg).1]; exact hgg, rest⟩
theorem ownsRow_form {w : World} {B : Nat} {e : TypeId} {size : Nat} {v : Value} {n : Nat} {xs : List Value} (h : w.ownsRow B e size v n xs) : ∃ A c, v = .slice A n c := by
  rcases h.2 with ⟨rfl, rfl⟩ | ⟨g, cap, cur, rfl, _⟩
  · exact ⟨none, 0, rfl⟩
  · exact ⟨_, _, rfl⟩
theorem OwnV.form {F : Nat → Prop} {w : World} {B : Nat} {v : Value} {l : List V} (h : OwnV F w B v l) : ∃ A c, v = .slice A l.length c := by
  obtain ⟨xs, h, _⟩ := h; exact ownsRow_form h
theorem OwnV.below {F : Nat → Prop} {w w' : World} {B : Nat} {v : Value} {l : List V} (h : OwnV F w B v l) (hb : Below w.heap.size w w') : OwnV F w' B v l := by
  obtain ⟨xs, ho, hx⟩ := h
  refine ⟨xs, ownsRow_below ho hb, fun i x hi => ?_⟩
  obtain ⟨u, hu, hr⟩ := hx i x hi
  exact ⟨u, hu, RdS.more (fun b hb' => ⟨hb'.1, Nat.lt_of_lt_of_le hb'.2.1 hb.size, hb'.2.2⟩) _ _ (RdS.keep (fun p hp => hb.cell hp.2.1) _ _ hr)⟩
/- A new row of no elements. -/
theorem ownsRow_empty (w : World) (B : Nat) (e : TypeId) (size : Nat) (hB : B ≤ w.heap.size) : (w.alloc (.cells #[] e)).ownsRow B e size (.slice (some ⟨w.heap.size, 0, none⟩) 0 0) 0 [] :=
  ⟨by simp, .inr ⟨w.heap.size, 0, #[], rfl, hB, heap_alloc_new _ _, Nat.le_refl _, by simp [maxLen], by simp, by simp⟩⟩
theorem OwnV.empty (F : Nat → Prop) (w : World) (B : Nat) (hB : B ≤ w.heap.size) : OwnV F (w.alloc (.cells #[] 20)) B (.slice (some ⟨w.heap.size, 0, none⟩) 0 0) [] :=
  ⟨[], ownsRow_empty w B _ 1 hB, fun i x h => by simp at h⟩
/- A grown world keeps what lies outside of the row that was written. -/
theorem grown_keep {w w' : World} {row : Option Nat} {S : Nat → Prop} (hg : w.grownBy w' row) (hS : ∀ b, S b → b < w.heap.size ∧ row ≠ some b) : ∀ p : Addr, S p.block → w'.cell? p = w.cell? p :=
  fun p hp => World.cell?_of_block (hg.block p.block (hS _ hp).1 (fun e => (hS _ hp).2 e.symm))
/- One more. -/
theorem OwnV.snoc {F : Nat → Prop} {w w2 : World} {B : Nat} {v : Value} {l : List V} {xs : List Value} {u : Value} {y : V} {g cap n : Nat} (hln : l.length = n)
    (hown : w.ownsRow B 20 1 v n xs) (hx : ∀ (i : Nat) (x : V), l[i]? = some x → ∃ u, xs[i]? = some u ∧ RdS w (Fresh F w v) x u) (hy : RdS w (Fresh F w v) y u)
    (hown2 : w2.ownsRow B 20 1 (.slice (some ⟨g, 0, none⟩) (n + 1) cap) (n + 1) (xs ++ [u])) (hg : w.grownBy w2 v.ownBlock) (hat : v.ownBlock = some g ∨ g = w.heap.size) :
    OwnV F w2 B (.slice (some ⟨g, 0, none⟩) (n + 1) cap) (l ++ [y]) := by
  subst hln
  have hlen : xs.length = l.length := by simpa using hown.1
  have mv : ∀ z t, RdS w (Fresh F w v) z t → RdS w2 (Fresh F w2 (.slice (some ⟨g, 0, none⟩) (l.length + 1) cap)) z t := by
    intro z t hz
    refine RdS.more (fun b hb => ⟨hb.1, Nat.lt_of_lt_of_le hb.2.1 hg.size, ?_⟩) _ _ (RdS.keep (grown_keep hg (fun b hb => ⟨hb.2.1, hb.2.2⟩)) _ _ hz)
    intro e
    simp only [Value.ownBlock, Option.some.injEq] at e
    subst e
    rcases hat with h | h
    · exact hb.2.2 h
    · have := hb.2.1; omega
  refine ⟨xs ++ [u], by simpa using hown2, fun i x hi => ?_⟩
  by_cases h : i < l.length
  · rw [List.getElem?_append_left h] at hi
    obtain ⟨t, ht, hr⟩ := hx i x hi
    exact ⟨t, by rw [List.getElem?_append_left (by omega)]; exact ht, mv _ _ hr⟩
  · have hi2 : i = l.length := by
      have := (List.getElem?_eq_some_iff.1 hi).1; simp at this; omega
    subst hi2
    simp at hi
    subst hi
    exact ⟨u, by rw [List.getElem?_append_right (by omega), hlen]; simp, mv _ _ hy⟩
/- What is owned reads as a list. -/
theorem OwnV.read {F : Nat → Prop} {w : World} {B : Nat} {v : Value} {l : List V} (h : OwnV F w B v l) (hl : l.length ≤ 1099511627776) :
    RdS w (fun b => (F b ∨ B ≤ b) ∧ b < w.heap.size) (.list l) (.iface 43 v) := by
  obtain ⟨xs, ho, hx⟩ := h
  obtain ⟨A, c, rfl⟩ := ownsRow_form ho
  refine ⟨A, c, rfl, hl, ⟨?_, ?_⟩, ?_⟩
  · rintro rfl
    rcases ho.2 with ⟨h, _⟩ | ⟨g, cap, cur, h, _⟩
    · injection h
    · injection h with h; cases h
  · rcases ho.2 with ⟨h, h0⟩ | ⟨g, cap, cur, h, _, _, hc, _⟩
    · omega
    · injection h with _ _ h; omega
  by_cases hn : l.length = 0
  · exact .inl (List.eq_nil_of_length_eq_zero hn)
  · obtain ⟨g, cap, hv, hg, hlt⟩ := ho.form (by omega)
    injection hv with hA _ hc
    subst hA
    refine .inr ⟨g, 0, rfl, ⟨.inr hg, hlt⟩, RdL.iff.2 fun i x hi => ?_⟩
    obtain ⟨u, hu, hr⟩ := hx i x hi
    exact ⟨u, by have := ho.cells (g := g) rfl i u hu; simpa [Addr.add_lit] using this, RdS.more (fun b hb => ⟨.inl hb.1, hb.2.1⟩) _ _ hr⟩
/- Likewise rows of fields. -/
def OwnD (F : Nat → Prop) (w : World) (B : Nat) (v : Value) (l : List (ByteArray × V)) : Prop :=
  ∃ xs, w.ownsRow B 39 2 v l.length xs ∧ ∀ (i : Nat) (p : ByteArray × V), l[i]? = some p → xs[i * 2]? = some (.string p.1) ∧ p.1.size ≤ 140737488351232 ∧ ∃ u, xs[i * 2 + 1]? = some u ∧ RdS w (Fresh F w v) p.2 u
theorem OwnD.form {F : Nat → Prop} {w : World} {B : Nat} {v : Value} {l : List (ByteArray × V)} (h : OwnD F w B v l) : ∃ A c, v = .slice A l.length c := by
  obtain ⟨xs, h, _⟩ := h; exact ownsRow_form h
theorem OwnD.below {F : Nat → Prop} {w w' : World} {B : Nat} {v : Value} {l : List (ByteArray × V)} (h : OwnD F w B v l) (hb : Below w.heap.size w w') : OwnD F w' B v l := by
  obtain ⟨xs, ho, hx⟩ := h
  refine ⟨xs, ownsRow_below ho hb, fun i x hi => ?_⟩
  obtain ⟨h1, h2, u, hu, hr⟩ := hx i x hi
  exact ⟨h1, h2, u, hu, RdS.more (fun b hb' => ⟨hb'.1, Nat.lt_of_lt_of_le hb'.2.1 hb.size, hb'.2.2⟩) _ _ (RdS.keep (fun p hp => hb.cell hp.2.1) _ _ hr)⟩
theorem OwnD.empty (F : Nat → Prop) (w : World) (B : Nat) (hB : B ≤ w.heap.size) : OwnD F (w.alloc (.cells #[] 39)) B (.slice (some ⟨w.heap.size, 0, none⟩) 0 0) [] :=
  ⟨[], ownsRow_empty w B _ 2 hB, fun i x h => by simp at h⟩
theorem OwnD.snoc {F : Nat → Prop} {w w2 : World} {B : Nat} {v : Value} {l : List (ByteArray × V)} {xs : List Value} {u : Value} {nm : ByteArray} {y : V} {g cap n : Nat} (hln : l.length = n)
    (hown : w.ownsRow B 39 2 v n xs) (hx : ∀ (i : Nat) (p : ByteArray × V), l[i]? = some p → xs[i * 2]? = some (.string p.1) ∧ p.1.size ≤ 140737488351232 ∧ ∃ u, xs[i * 2 + 1]? = some u ∧ RdS w (Fresh F w v) p.2 u)
    (hn : nm.size ≤ 140737488351232) (hy : RdS w (Fresh F w v) y u)
    (hown2 : w2.ownsRow B 39 2 (.slice (some ⟨g, 0, none⟩) (n + 1) cap) (n + 1) (xs ++ [.string nm, u])) (hg : w.grownBy w2 v.ownBlock) (hat : v.ownBlock = some g ∨ g = w.heap.size) :
    OwnD F w2 B (.slice (some ⟨g, 0, none⟩) (n + 1) cap) (l ++ [(nm, y)]) := by
  subst hln
  have hlen : xs.length = l.length * 2 := hown.1
  have mv : ∀ z t, RdS w (Fresh F w v) z t → RdS w2 (Fresh F w2 (.slice (some ⟨g, 0, none⟩) (l.length + 1) cap)) z t := by
    intro z t hz
    refine RdS.more (fun b hb => ⟨hb.1, Nat.lt_of_lt_of_le hb.2.1 hg.size, ?_⟩) _ _ (RdS.keep (grown_keep hg (fun b hb => ⟨hb.2.1, hb.2.2⟩)) _ _ hz)
    intro e
    simp only [Value.ownBlock, Option.some.injEq] at e
    subst e
    rcases hat with h | h
    · exact hb.2.2 h
    · have := hb.2.1; omega
  refine ⟨xs ++ [.string nm, u], by simpa using hown2, fun i x hi => ?_⟩
  by_cases h : i < l.length
  · rw [List.getElem?_append_left h] at hi
    obtain ⟨h1, h2, t, ht, hr⟩ := hx i x hi
    exact ⟨by rw [List.getElem?_append_left (by omega)]; exact h1, h2, t, by rw [List.getElem?_append_left (by omega)]; exact ht, mv _ _ hr⟩
  · have hi2 : i = l.length := by
      have := (List.getElem?_eq_some_iff.1 hi).1; simp at this; omega
    subst hi2
    simp at hi
    subst hi
    exact ⟨by rw [List.getElem?_append_right (by omega), hlen]; simp, hn, u, by rw [List.getElem?_append_right (by omega), hlen]; simp, mv _ _ hy⟩
def DictS (w : World) (S : Nat → Prop) (A : Option Addr) (l : List (ByteArray × V)) : Prop := l = [] ∨ ∃ b off, A = some ⟨b, off, none⟩ ∧ S b ∧ RdD w S b off l
theorem DictS.more {w : World} {S S' : Nat → Prop} {A : Option Addr} {l : List (ByteArray × V)} (h : DictS w S A l) (hS : ∀ b, S b → S' b) : DictS w S' A l := by
  refine h.imp id ?_
  rintro ⟨b, off, hA, hb, hr⟩
  refine ⟨b, off, hA, hS _ hb, RdD.iff.2 fun i x hx => ?_⟩
  obtain ⟨hn, hs, v, hv, hd⟩ := RdD.iff.1 hr i x hx
  exact ⟨hn, hs, v, hv, RdS.more hS _ _ hd⟩
theorem DictS.keep {w w' : World} {S : Nat → Prop} {A : Option Addr} {l : List (ByteArray × V)} (h : DictS w S A l) (hk : ∀ p : Addr, S p.block → w'.cell? p = w.cell? p) : DictS w' S A l := by
  refine h.imp id ?_
  rintro ⟨b, off, hA, hb, hr⟩
  refine ⟨b, off, hA, hb, RdD.iff.2 fun i x hx => ?_⟩
  obtain ⟨hn, hs, v, hv, hd⟩ := RdD.iff.1 hr i x hx
  exact ⟨(hk _ hb).trans hn, hs, v, (hk _ hb).trans hv, RdS.keep hk _ _ hd⟩
theorem OwnD.read {F : Nat → Prop} {w : World} {B : Nat} {v : Value} {l : List (ByteArray × V)} (h : OwnD F w B v l) :
    ∃ A c, v = .slice A l.length c ∧ DictS w (fun b => (F b ∨ B ≤ b) ∧ b < w.heap.size) A l := by
  obtain ⟨xs, ho, hx⟩ := h
  obtain ⟨A, c, rfl⟩ := ownsRow_form ho
  refine ⟨A, c, rfl, ?_⟩
  by_cases hn : l.length = 0
  · exact .inl (List.eq_nil_of_length_eq_zero hn)
  · obtain ⟨g, cap, hv, hg, hlt⟩ := ho.form (by omega)
    injection hv with hA _ hc
    subst hA
    refine .inr ⟨g, 0, rfl, ⟨.inr hg, hlt⟩, RdD.iff.2 fun i x hi => ?_⟩
    obtain ⟨h1, h2, u, hu, hr⟩ := hx i x hi
    refine ⟨by have := ho.cells (g := g) rfl _ _ h1; simpa [Addr.add_lit] using this, h2, u, by have := ho.cells (g := g) rfl _ _ hu; simpa [Addr.add_lit, Nat.add_assoc] using this, RdS.more (fun b hb => ⟨.inl hb.1, hb.2.1⟩) _ _ hr⟩
theorem RdS.face {w : World} {S : Nat → Prop} {x : V} {v : Value} (h : RdS w S x v) : v = .nilIface ∨ ∃ t y, v = .iface t y := by
  cases x with
  | nil => exact .inl h
  | bool b => exact .inr ⟨_, _, h⟩
  | int n => exact .inr ⟨_, _, h.1⟩
  | flt n => exact .inr ⟨_, _, h⟩
  | text s => exact .inr ⟨_, _, h.1⟩
  | bytes l => obtain ⟨A, c, h, _⟩ := h; exact .inr ⟨_, _, h⟩
  | ref n => exact .inr ⟨_, _, h.1⟩
  | list l => obtain ⟨A, c, h, _⟩ := h; exact .inr ⟨_, _, h⟩
  | dict l => obtain ⟨A, c, h, _⟩ := h; exact .inr ⟨_, _, h⟩
  | record a b c => obtain ⟨b, h, _⟩ := h; exact .inr ⟨_, _, h⟩
  | nothing => exact .inr ⟨_, _, h⟩
  | alien => obtain ⟨t, x, h, _⟩ := h; exact .inr ⟨_, _, h⟩
theorem news_at {W : World} {g : Nat} {T : TypeId} {l : List Value} (hg : g = W.heap.size) : ∀ j u, l[j]? = some u → (W.alloc (.cells l.toArray T)).cell? ((⟨g, 0, none⟩ : Addr).add j) = some u := by
  subst hg
  intro j u hu
  have h := cell_of_row (W.alloc (.cells l.toArray T)) W.heap.size j _ T (0, 0) (heap_alloc_new _ _)
  have e : (⟨W.heap.size, 0, none⟩ : Addr).add j = ⟨W.heap.size, j, none⟩ := by
    unfold Addr.add; split
    · rename_i e; subst e; rfl
    · simp
  rw [e, h]; simpa using hu
theorem one_of1 {a : Value} (ha : a.oneCell' = true) : ∀ u ∈ [a], u.oneCell' = true := by
  intro u hu; simp at hu; subst hu; exact ha
theorem one_of2 {a b : Value} (ha : a.oneCell' = true) (hb : b.oneCell' = true) : ∀ u ∈ [a, b], u.oneCell' = true := by
  intro u hu; simp at hu; rcases hu with rfl | rfl <;> assumption
def New (w w' : World) (b : Nat) : Prop := w.heap.size ≤ b ∧ b < w'.heap.size
/- What a callee has made lies apart from the row that its caller owns. -/
theorem fresh_of_new {F : Nat → Prop} {wr w1 w2 : World} {B : Nat} {e : TypeId} {size n : Nat} {v : Value} {xs : List Value} {x : V} {u : Value} (h : RdS w1 (New wr w1) x u) (hb : Below w1.heap.size w1 w2) (hF : ∀ b, wr.heap.size ≤ b → F b)
    (hown : wr.ownsRow B e size v n xs) : RdS w2 (Fresh F w2 v) x u := by
  refine RdS.more (fun b hb' => ⟨hF b hb'.1, Nat.lt_of_lt_of_le hb'.2 hb.size, fun he => ?_⟩) _ _ (RdS.keep (fun p hp => hb.cell hp.2) _ _ h)
  have := (hown.lt b he).2
  have := hb'.1
  omega
def bvals (l : List UInt8) : List Value := l.map fun x => .int .u8 (x.toNat : Int)
theorem bytes_of_row {w : World} {B : Nat} {T : TypeId} {v : Value} {l : List UInt8} (h : w.ownsRow B T 1 v l.length (bvals l)) :
    ∃ A c, v = .slice A l.length c ∧ (A = none → c = 0) ∧ ByteRow w (fun b => B ≤ b ∧ b < w.heap.size) A l := by
  by_cases hn : l.length = 0
  · rcases h.2 with ⟨rfl, _⟩ | ⟨g, cap, cur, rfl, _⟩
    · exact ⟨none, 0, by rw [hn], fun _ => rfl, .inl (List.eq_nil_of_length_eq_zero hn)⟩
    · exact ⟨_, cap, rfl, (fun h => by cases h), .inl (List.eq_nil_of_length_eq_zero hn)⟩
  · obtain ⟨g, cap, rfl, hg, hlt⟩ := h.form (by omega)
    refine ⟨_, cap, rfl, (fun h => by cases h), .inr ⟨g, 0, rfl, ⟨hg, hlt⟩, fun i x hx => ?_⟩⟩
    have := h.cells (g := g) rfl i (.int .u8 (x.toNat : Int)) (by unfold bvals; rw [List.getElem?_map, hx]; rfl)
    simpa [Addr.add_lit] using this
theorem one_bvals (l : List UInt8) : ∀ u ∈ bvals l, u.oneCell' = true := by
  intro u hu
  obtain ⟨x, _, rfl⟩ := List.mem_map.1 hu
  rfl
theorem ByteRow.news {w : World} {S : Nat → Prop} {ad : Addr} {l : List UInt8} (h : ByteRow w S (some ad) l) : ∀ j u, (bvals l)[j]? = some u → w.cell? (ad.add j) = some u := by
  intro j u hu
  rcases h with rfl | ⟨b, off, hA, _, hc⟩
  · simp [bvals] at hu
  · injection hA with hA
    subst hA
    unfold bvals at hu
    rw [List.getElem?_map] at hu
    cases e : l[j]? with
    | none => rw [e] at hu; cases hu
    | some x =>
      rw [e] at hu
      injection hu with hu
      subst hu
      have := hc j x e
      simpa [Addr.add_lit] using this
/- The cells that lie, one by one. -/
end Go.Proofs.YtobpkelblpdajaaGreatDoor
/- A region that draws its order: loads that no other operation of it can touch are taken first; behind them the rest, one after the other, S shown behind each. -/
namespace Go.Proofs.YtobpkelblpdajaaGreatDoor
open Go Go.RowKit
section
variable {P : Program} {ops : Array Oper} {md : Region.Mode} {S : World → Prop} {Q : Exit → Act → World → Prop}
def hdS (P : Program) (ops : Array Oper) (S : World → Prop) (L : Act → Prop) : List Oper → Act → Prop
  | [], a => L a
  | o :: r, a => ∃ v, YieldsIf P ops S o v a ∧ hdS P ops S L r (a.put o.dst v)
structure HdS (P : Program) (ops : Array Oper) (S : World → Prop) (L : Act → Prop) (l : List Oper) (a : Act) : Prop where
  out : hdS P ops S L l a
theorem HdS.nil {L : Act → Prop} {a : Act} (h : L a) : HdS P ops S L [] a := ⟨h⟩
theorem HdS.step {L : Act → Prop} {o : Oper} {r : List Oper} {a : Act}
    (h : ∀ K : Act → Prop, (∀ a, HdS P ops S L r a → K a) → if Region.wanted o (yielded ops a.tmps) then ∃ v, (∀ w, S w → (execOp a.eval o).run P w = .ok (.value v) w) ∧ K (a.put o.dst v) else K (a.put o.dst undef)) : HdS P ops S L (o :: r) a := by
  have := h (hdS P ops S L r) (fun a h => h.out)
  refine ⟨?_⟩
  unfold hdS
  by_cases hw : Region.wanted o (yielded ops a.tmps) = true
  · rw [if_pos hw] at this
    obtain ⟨v, h1, h2⟩ := this
    exact ⟨v, .inl ⟨hw, h1⟩, h2⟩
  · rw [if_neg hw] at this
    exact ⟨undef, .inr ⟨by simpa using hw, rfl⟩, this⟩
def seqS (P : Program) (ops : Array Oper) (S : World → Prop) (Q : Exit → Act → World → Prop) : List Oper → Act → World → Prop
  | [], a, w => Q .normal a w
  | o :: r, a, w => if Region.wanted o (yielded ops a.tmps) then o.wp P a w (fun a' w' => S w' ∧ seqS P ops S Q r a' w') Q else S w ∧ seqS P ops S Q r (a.put o.dst undef) w
structure SeqS (P : Program) (ops : Array Oper) (S : World → Prop) (Q : Exit → Act → World → Prop) (l : List Oper) (a : Act) (w : World) : Prop where
  out : seqS P ops S Q l a w
theorem SeqS.nil {a : Act} {w : World} (h : Q .normal a w) : SeqS P ops S Q [] a w := ⟨h⟩
theorem SeqS.step {o : Oper} {r : List Oper} {a : Act} {w : World}
    (h : ∀ K : Act → World → Prop, (∀ a w, S w → SeqS P ops S Q r a w → K a w) → if Region.wanted o (yielded ops a.tmps) then o.wp P a w K Q else K (a.put o.dst undef) w) : SeqS P ops S Q (o :: r) a w := by
  have := h (fun a w => S w ∧ seqS P ops S Q r a w) (fun a w h1 h2 => ⟨h1, h2.out⟩)
  refine ⟨?_⟩
  unfold seqS
  exact this
theorem SeqS.plain {o : Oper} {r : List Oper} {a : Act} {w : World} (hg : o.guard = none)
    (h : ∀ K : Act → World → Prop, (∀ a w, S w → SeqS P ops S Q r a w → K a w) → o.wp P a w K Q) : SeqS P ops S Q (o :: r) a w :=
  SeqS.step fun K hK => by simp only [Region.wanted, hg, if_true]; exact h K hK
theorem seqS_any : ∀ (l : List Oper) (k : Nat) (listed : Array Bool) (a : Act) (w : World), (∀ j, l[j]? = ops[k + j]?) → Region.seqB md ops l.length k listed = true → seqS P ops S Q l a w → wpAnyH P md ops Q S l.length listed a w
  | [], _, _, _, _, _, hB, h => ⟨by simpa [Region.seqB] using hB, h⟩
  | o :: l, k, listed, a, w, hl, hB, h => by
    have h0 : ops[k]? = some o := by simpa using (hl 0).symm
    simp only [List.length_cons, Region.seqB, Bool.and_eq_true, decide_eq_true_eq] at hB
    refine wpAnyH_all hB.1 (by simp) fun i hi => ?_
    obtain rfl : i = k := by simpa using hi
    have R := fun a' w' (h' : seqS P ops S Q l a' w') => seqS_any l (i + 1) (listed.setIfInBounds i true) a' w' (fun j => by have := hl (j + 1); simpa [Nat.add_assoc, Nat.add_comm 1 j] using this) hB.2 h'
    unfold wpOp
    simp only [h0]
    unfold seqS at h
    split
    · rename_i hw
      rw [if_pos hw] at h
      exact .inl (Oper.wp_mono (fun a' w' h' => ⟨h'.1, R _ _ h'.2⟩) h)
    · rename_i hw
      rw [if_neg hw] at h
      exact ⟨h.1, R _ _ h.2⟩
theorem held_lex {g : Nat} {L : Act → Prop} (hsel : Region.noSelect ops = true) (hQ : ∀ c a w d v, Q (.panic c) (a.put d v) w → Q (.panic c) a w) {w : World} (hS : S w) :
    ∀ (l : List Oper) (k : Nat) (listed : Array Bool) (a : Act), (∀ j, j < l.length → l[j]? = ops[k + j]?) → Region.lexHead md ops g l.length k listed = true → hdS P ops S L l a →
    (∀ ls a', Region.seqB md ops g (k + l.length) ls = true → L a' → wpAnyH P md ops Q S g ls a' w) → wpAnyH P md ops Q S (l.length + g) listed a w
  | [], k, listed, a, _, hB, h, hL => by simpa using hL listed a (by simpa [Region.lexHead] using hB) h
  | o :: l, k, listed, a, hl, hB, ⟨v, hy, h⟩, hL => by
    have h0 : ops[k]? = some o := by simpa using (hl 0 (by simp)).symm
    simp only [List.length_cons, Region.lexHead, Bool.and_eq_true] at hB
    obtain ⟨⟨hr, hf⟩, hB⟩ := hB
    rw [show (o :: l).length + g = (l.length + g) + 1 by simp; omega]
    exact wpAnyH_take h0 hsel hf hr (fun c a w => hQ c a w _ _) hy hS
      (held_lex hsel hQ hS l (k + 1) _ _ (fun j hj => by have := hl (j + 1) (by simp; omega); simpa [Nat.add_assoc, Nat.add_comm 1 j] using this) hB h (fun ls a' h1 h2 => hL ls a' (by rw [List.length_cons, show k + (l.length + 1) = k + 1 + l.length by omega]; exact h1) h2))
def heldB (ops : Array Oper) (n : Nat) : Bool := Region.noSelect ops && decide (n ≤ ops.size) && Region.lexHead .any ops (ops.size - n) n 0 (Array.replicate ops.size false)
theorem wp_region_heldS {id : Nat} {a : Act} {w : World} {l : List Oper} (S : World → Prop) (n : Nat) (hm : P.follows .mixedOrders = true) (hB : heldB l.toArray n = true) (hQ1 : ∀ c (a : Act) w (i : Nat) v, Q (.panic c) (a.put (some i) v) w → Q (.panic c) a w) (hS : S w.drew)
    (h : HdS P l.toArray S (fun a' => SeqS P l.toArray S Q (l.drop n) a' w.drew) (l.take n) a) : (Code.region id l.toArray true).wp P Q a w := by
  have hQ : ∀ c (a : Act) w d v, Q (.panic c) (a.put d v) w → Q (.panic c) a w := by
    intro c a w d v h
    cases d with
    | none => exact h
    | some i => exact hQ1 c a w i v h
  simp only [heldB, Bool.and_eq_true, decide_eq_true_eq] at hB
  obtain ⟨⟨hsel, hn⟩, hlex⟩ := hB
  have hn' : n ≤ l.length := by simpa using hn
  have htl : (l.take n).length = n := by simp; omega
  have hdl : (l.drop n).length = l.toArray.size - n := by simp
  refine wp_region_held (S := S) hm ?_
  have := held_lex (md := .any) (g := l.toArray.size - n) hsel hQ (w := w.drew) hS (l.take n) 0 (Array.replicate l.toArray.size false) a (fun j hj => by
    have : j < n := by rw [htl] at hj; exact hj
    simp [this]) (by rw [htl]; exact hlex) h.out (fun ls a' h1 h2 => by
      rw [htl, Nat.zero_add] at h1
      have := seqS_any (md := .any) (l.drop n) n ls a' w.drew (fun j => by simp [List.getElem?_drop]) (by rw [hdl]; exact h1) h2.out
      rwa [hdl] at this)
  rw [htl, show n + (l.toArray.size - n) = l.toArray.size by omega] at this
  exact this
end
/- The loads first; then the tail is at hand: SeqS goals. -/
/- One operation of the tail that the walk runs by itself. -/
end Go.Proofs.YtobpkelblpdajaaGreatDoor
/- Walks: the value of a term (mk.Built). -/
namespace Go.Proofs.YtobpkelblpdajaaGreatDoor
open Go Go.RowKit
mutual
def builtV : Tm → V
  | .mk k b i f t bs r l d c v => if k = 1 then .nil else if k = 2 then .bool b else if k = 3 then .int i else if k = 4 then .flt f else if k = 5 then .text t else if k = 6 then .bytes bs else if k = 7 then .ref r
      else if k = 8 then .list (builtL l) else if k = 9 then .dict (builtD d) else if k = 10 then .record c v (builtD d) else if k = 11 then .nothing else .alien
def builtL : List Tm → List V
  | [] => []
  | x :: r => builtV x :: builtL r
def builtD : List (ByteArray × Tm) → List (ByteArray × V)
  | [] => []
  | (n, x) :: r => (n, builtV x) :: builtD r
end
theorem builtL_eq (l : List Tm) : builtL l = l.map builtV := by
  induction l with
  | nil => rfl
  | cons x r ih => simp [builtL, ih]
theorem builtD_eq (l : List (ByteArray × Tm)) : builtD l = l.map (fun p => (p.1, builtV p.2)) := by
  induction l with
  | nil => rfl
  | cons x r ih => obtain ⟨n, x⟩ := x; simp [builtD, ih]
def BuiltPost (y : V) (w : World) (e : Ending) (w' : World) : Prop := ∃ v, e = .returned v ∧ RdS w' (New w w') y v ∧ Below w.heap.size w w'
def BuiltC (T : Tm) : Prop := ∀ (x : List Value) (w : World), RdT w w.heap.size T x → Calls Tryz.prog 12 #[termOf x] w (BuiltPost (builtV T) w)
def DictPost (l : List (ByteArray × V)) (w : World) (e : Ending) (w' : World) : Prop := ∃ A c, e = .returned (.slice A l.length c) ∧ DictS w' (New w w') A l ∧ Below w.heap.size w w'
theorem RdTS.eleven {w : World} {S : Nat → Prop} {x : Tm} {v : List Value} (h : RdTS w S x v) : ∃ c0 c1 c2 c3 c4 c5 c6 c7 c8 c9 c10, v = [c0, c1, c2, c3, c4, c5, c6, c7, c8, c9, c10] ∧ ∀ u ∈ v, u.oneCell' = true := by
  cases x with
  | mk k b i f t bs r l d c v =>
    obtain ⟨Ab, cb, Al, cl, Ad, cd, rfl, _⟩ := h
    exact ⟨_, _, _, _, _, _, _, _, _, _, _, rfl, by intro u hu; simp at hu; rcases hu with rfl | rfl | rfl | rfl | rfl | rfl | rfl | rfl | rfl | rfl | rfl <;> rfl⟩
theorem Tryz.infoAny : (Tryz.prog.info? 20).map (fun i => (i.zero, i.size, i.bytes)) = some (some .nilIface, 1, 16) := by kernel_rfl
theorem Tryz.infoField : (Tryz.prog.info? 39).map (fun i => (i.zero, i.size, i.bytes)) = some (some (.agg #[.string ⟨#[]⟩, .nilIface]), 2, 32) := by kernel_rfl
set_option maxRecDepth 100000 in
set_option maxHeartbeats 1000000 in
theorem Dict_any (l : List (ByteArray × Tm)) (ih : ∀ p ∈ l, BuiltC p.2) (A : Option Addr) (c : Nat) (w : World) (hl : l.length * 168 ≤ 140737488351232) (hD : EntsAt w w.heap.size A l) :
    Calls Tryz.prog 47 #[.slice A l.length c] w (DictPost (builtD l) w) := by
  obtain ⟨i0, hi, hz0, hz1, hz2⟩ := info_parts Tryz.infoField
  go_enter Tryz.func47, Tryz.ntmps47
  go_wp2
  go_loopw [3, 4] (fun v i wr => ∃ k : Nat, i = .int .i64 k ∧ k ≤ l.length ∧ Below w.heap.size w wr ∧ OwnD (fun b => w.heap.size ≤ b) wr w.heap.size v (builtD (l.take k))) (fun _ i _ => l.length - (intOf i).toNat)
  case atStart => exact ⟨0, rfl, by omega, (Below.refl _ _).alloc (Nat.le_refl _) _, OwnD.empty _ _ _ (Nat.le_refl _)⟩
  case round =>
    obtain ⟨k, rfl, hk, hb, hO⟩ := hrel
    obtain ⟨A1, c1, rfl⟩ := hO.form
    by_cases hlt : k < l.length
    · obtain ⟨b, off, rfl, hbB, hr⟩ := hD.at_ hlt
      have hz := hb.size
      obtain ⟨p, hp⟩ : ∃ p, l[k]? = some p := ⟨_, List.getElem?_eq_getElem hlt⟩
      obtain ⟨e0, hps, v, e1, hv⟩ := RdTD.iff.1 hr k p hp
      have HC := Lib.hid (fun (W : World) (hW : Below wr.heap.size wr W) => ih p (List.mem_of_getElem? hp) v W ((hv.below (hb.trans (hW.mono hz))).more (Nat.le_trans hz hW.size)))
      obtain ⟨n0, n1, n2, n3, n4, n5, n6, n7, n8, n9, n10, rfl, h1c⟩ := hv.eleven
      have c0 := (hb.cell (p := ⟨b, off + k * 12, none⟩) hbB).trans e0
      have hb2 : b < wr.heap.size := by omega
      have hxl : (builtD (l.take k)).length = k := by rw [builtD_eq]; simp; omega
      have HT : Hid (builtD (l.take (k + 1)) = builtD (l.take k) ++ [(p.1, builtV p.2)]) := Lib.hid (by rw [builtD_eq, builtD_eq, List.take_add_one, hp]; simp)
      clear hp hv hr hD ih
      go_wp2
      refine wp_region_heldS (fun W => Below w.heap.size w W) 11 (by kernel_rfl) (by kernel_rfl) (fun _ _ _ _ _ h => h) ?_ ?_
      · ((exact below_drewN hb 1))
      simp only [List.take_succ_cons, List.take_zero]
      repeat (refine HdS.step (fun K hK => ?_); go_simp; first | (refine hK _ ?_; clear hK K) | (apply Exists.intro; refine ⟨fun W hW => ?_, hK _ ?_⟩; (first | (intros; rfl) | ((have e0' := (hW.cell (p := ⟨b, off + k * 12, none⟩) hbB).trans e0; have e1' := e1.keep (fun p hp => hW.cell (by rw [hp]; exact hbB)); (have q0 := e1' 0 _ rfl; have q1 := e1' 1 _ rfl; have q2 := e1' 2 _ rfl; have q3 := e1' 3 _ rfl; have q4 := e1' 4 _ rfl; have q5 := e1' 5 _ rfl; have q6 := e1' 6 _ rfl; have q7 := e1' 7 _ rfl; have q8 := e1' 8 _ rfl; have q9 := e1' 9 _ rfl; have q10 := e1' 10 _ rfl; simp only [Nat.add_zero] at q0); clear e1'; go_simp; rfl))); clear hK K))
      refine HdS.nil ?_
      simp only [List.drop_succ_cons, List.drop_zero]
      refine SeqS.step (fun K hK => ?_)
      go_simp
      go_at_call 12
      refine (HC.out _ (below_drewN (Below.refl _ _) 1)).mono ?_
      rintro e w1 ⟨u, rfl, hu, hb1⟩
      have hS1 : Below w.heap.size w w1 := (below_drewN hb 1).trans (hb1.mono hz)
      refine hK _ _ hS1 ?_
      clear hK K
      have hbw : Below wr.heap.size wr w1 := (below_drewN (Below.refl _ _) 1).trans hb1
      have hz1' : wr.heap.size ≤ w1.heap.size := hbw.size
      have hba : Below w1.heap.size w1 (w1.alloc (.cells #[.string p.1, u] 39)) := (Below.refl _ _).alloc (Nat.le_refl _) _
      have hbx : Below wr.heap.size wr (w1.alloc (.cells #[.string p.1, u] 39)) := hbw.trans (hba.mono hz1')
      have hS2 : Below w.heap.size w (w1.alloc (.cells #[.string p.1, u] 39)) := hb.trans (hbx.mono hz)
      have hO2 := hO.below hbx
      obtain ⟨xs0, hown0, _⟩ := hO
      rw [hxl] at hown0
      have hu2 := fresh_of_new (F := fun b => w.heap.size ≤ b) hu hba (fun b h => Nat.le_trans hz h) hown0
      obtain ⟨xs, hown, hx⟩ := hO2
      rw [hxl] at hown
      rw [hxl] at hx
      have hou := hu.one
      rcases hu.face with rfl | ⟨ty, y, rfl⟩
      all_goals
        clear hu
        refine SeqS.step (fun K hK => ?_)
        go_simp
        refine hK _ _ hS1 ?_
        clear hK K
        refine SeqS.step (fun K hK => ?_)
        go_simp
        refine hK _ _ hS2 ?_
        clear hK K
        refine SeqS.plain rfl (fun K hK => ?_)
        refine wp_append_lies _ (.tmp 12) (.tmp 25) 41 rfl w.heap.size 39 i0 _ 2 32 Tryz.underlying41 hi hz0 hz1 hz2 rfl (by omega) (.slice A1 k c1) k xs rfl hown ⟨w1.heap.size, 0, none⟩ 1 1 [.string p.1, _] rfl rfl (news_at rfl) (one_of2 rfl hou) (by omega) (by simp only [maxLen]; omega) (by omega) hS2.size _ rfl ?_
        intro g cap w2 hown2 hg2 hat hlt2
        have hO3 := OwnD.snoc hxl hown hx hps hu2 hown2 hg2 hat
        have hS3 : Below w.heap.size w w2 := hS2.grown hg2 hS2.size (fun j hj => (hown.lt j hj).1)
        refine hK _ _ hS3 ?_
        clear hK K
        refine SeqS.step (fun K hK => ?_)
        go_simp
        refine hK _ _ hS3 ?_
        clear hK K
        refine SeqS.nil ?_
        go_wp2
        refine ⟨⟨k + 1, rfl, hlt, hS3, by rw [HT.out]; exact hO3⟩, ?_⟩
        simp [intOf]; omega
    · obtain rfl : k = l.length := by omega
      rw [List.take_length] at hO ⊢
      obtain ⟨A2, c2, e2, hr⟩ := hO.read
      injection e2 with e2 _ e3
      subst e2; subst e3
      have hbl : (builtD l).length = l.length := by rw [builtD_eq]; simp
      clear hO
      go_wp2
      go_ret
      exact ⟨A1, c1, by rw [hbl]; rfl, hr.more (fun b hb => ⟨hb.1.elim id id, hb.2⟩), hb⟩
end Go.Proofs.YtobpkelblpdajaaGreatDoor
