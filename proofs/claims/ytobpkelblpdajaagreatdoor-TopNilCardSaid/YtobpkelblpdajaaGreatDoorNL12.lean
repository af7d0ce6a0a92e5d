/- Slices that a call owns, and what lies in them. -/
import Derived.Test.YtobpkelblpdajaaGreatDoorNL11
import Derived.Deep.AppendLies
import Derived.Deep.DeepMust
set_option linter.unusedVariables false
set_option linter.unusedSimpArgs false
set_option linter.unusedSectionVars false
namespace Go.Proofs.YtobpkelblpdajaaGreatDoor
open Go Go.RowKit
/- The blocks from B on, below the world's end, but for one. -/
def Fresh (F : Nat → Prop) (w : World) (v : Value) (b : Nat) : Prop := F b ∧ b < w.heap.size ∧ v.ownBlock ≠ some b
def OwnV (F : Nat → Prop) (w : World) (B : Nat) (v : Value) (l : List V) : Prop :=
  ∃ xs, w.ownsRow B 20 1 v l.length xs ∧ ∀ (i : Nat) (x : V), l[i]? = some x → ∃ u, xs[i]? = some u ∧ RdS w (Fresh F w v) x u
theorem ownsRow_below {w w' : World} {B : Nat} {e : TypeId} {size : Nat} {v : Value} {n : Nat} {xs : List Value} (h : w.ownsRow B e size v n xs) (hb : Below w.heap.size w w') : w'.ownsRow B e size v n xs := by
  refine ⟨h.1, ?_⟩
  rcases h.2 with hn | ⟨g, cap, cur, rfl, hg, hgg, rest⟩
  · exact .inl hn
  · exact .inr ⟨g, cap, cur, rfl, hg, by rw [hb.block g (Array.getElem?_eq_some_iff.1 hgg).1]; exact hgg, rest⟩
theorem ownsRow_form {w : World} {B : Nat} {e : TypeId} {size : Nat} {v : Value} {n : Nat} {xs : List Value} (h : w.ownsRow B e size v n xs) : ∃ A c, v = .slice A n c := by
  rcases h.2 with ⟨rfl, rfl⟩ | ⟨g, cap, cur, rfl, _⟩
  · exact ⟨none, 0, rfl⟩
  · exact ⟨_, _, rfl⟩
theorem OwnV.form {F : Nat → Prop} {w : World} {B : Nat} {v : Value} {l : List V} (h : OwnV F w B v l) : ∃ A c, v = .slice A l.length c := by
  obtain ⟨xs, h, _⟩ := h; exact ownsRow_form h
theorem OwnV.below {F : Nat → Prop} {w w' : World} {B : Nat} {v : Value} {l : List V} (h : OwnV F w B v l) (hb : Below w.heap.size w w') : OwnV F w' B v l := by
  obtain ⟨xs, ho, hx⟩ := h
  refine ⟨xs, ownsRow_below ho hb, fun i x hi => ?_⟩
  obtain ⟨u, hu, hr⟩ := hx i x hi
  exact ⟨u, hu, RdS.more (fun b hb' => ⟨hb'.1, Nat.lt_of_lt_of_le hb'.2.1 hb.size, hb'.2.2⟩) _ _ (RdS.keep (fun p hp => hb.cell hp.2.1) _ _ hr)⟩
/- A new row of no elements. -/
theorem ownsRow_none (w : World) (B : Nat) (e : TypeId) (size : Nat) : w.ownsRow B e size (.slice none 0 0) 0 [] := ⟨by simp, .inl ⟨rfl, rfl⟩⟩
theorem ownsRow_empty (w : World) (B : Nat) (e : TypeId) (size : Nat) (hB : B ≤ w.heap.size) : (w.alloc (.cells #[] e)).ownsRow B e size (.slice (some ⟨w.heap.size, 0, none⟩) 0 0) 0 [] :=
  ⟨by simp, .inr ⟨w.heap.size, 0, #[], rfl, hB, heap_alloc_new _ _, Nat.le_refl _, by simp [maxLen], by simp, by simp⟩⟩
theorem OwnV.empty (F : Nat → Prop) (w : World) (B : Nat) (hB : B ≤ w.heap.size) : OwnV F (w.alloc (.cells #[] 20)) B (.slice (some ⟨w.heap.size, 0, none⟩) 0 0) [] :=
  ⟨[], ownsRow_empty w B _ 1 hB, fun i x h => by simp at h⟩
/- A grown world keeps what lies outside of the row that was written. -/
theorem grown_keep {w w' : World} {row : Option Nat} {S : Nat → Prop} (hg : w.grownBy w' row) (hS : ∀ b, S b → b < w.heap.size ∧ row ≠ some b) : ∀ p : Addr, S p.block → w'.cell? p = w.cell? p :=
  fun p hp => World.cell?_of_block (hg.block p.block (hS _ hp).1 (fun e => (hS _ hp).2 e.symm))
/- One more. -/
theorem OwnV.snoc {F : Nat → Prop} {w w2 : World} {B : Nat} {v : Value} {l : List V} {xs : List Value} {u : Value} {y : V} {g cap n : Nat} (hln : l.length = n)
    (hown : w.ownsRow B 20 1 v n xs) (hx : ∀ (i : Nat) (x : V), l[i]? = some x → ∃ u, xs[i]? = some u ∧ RdS w (Fresh F w v) x u) (hy : RdS w (Fresh F w v) y u)
    (hown2 : w2.ownsRow B 20 1 (.slice (some ⟨g, 0, none⟩) (n + 1) cap) (n + 1) (xs ++ [u])) (hg : w.grownBy w2 v.ownBlock) (hat : v.ownBlock = some g ∨ g = w.heap.size) :
    OwnV F w2 B (.slice (some ⟨g, 0, none⟩) (n + 1) cap) (l ++ [y]) := by
  subst hln
  have hlen : xs.length = l.length := by simpa using hown.1
  have mv : ∀ z t, RdS w (Fresh F w v) z t → RdS w2 (Fresh F w2 (.slice (some ⟨g, 0, none⟩) (l.length + 1) cap)) z t := by
    intro z t hz
    refine RdS.more (fun b hb => ⟨hb.1, Nat.lt_of_lt_of_le hb.2.1 hg.size, ?_⟩) _ _ (RdS.keep (grown_keep hg (fun b hb => ⟨hb.2.1, hb.2.2⟩)) _ _ hz)
    intro e
    simp only [Value.ownBlock, Option.some.injEq] at e
    subst e
    rcases hat with h | h
    · exact hb.2.2 h
    · have := hb.2.1; omega
  refine ⟨xs ++ [u], by simpa using hown2, fun i x hi => ?_⟩
  by_cases h : i < l.length
  · rw [List.getElem?_append_left h] at hi
    obtain ⟨t, ht, hr⟩ := hx i x hi
    exact ⟨t, by rw [List.getElem?_append_left (by omega)]; exact ht, mv _ _ hr⟩
  · have hi2 : i = l.length := by
      have := (List.getElem?_eq_some_iff.1 hi).1; simp at this; omega
    subst hi2
    simp at hi
    subst hi
    exact ⟨u, by rw [List.getElem?_append_right (by omega), hlen]; simp, mv _ _ hy⟩
/- What is owned reads as a list. -/
theorem OwnV.read {F : Nat → Prop} {w : World} {B : Nat} {v : Value} {l : List V} (h : OwnV F w B v l) (hl : l.length ≤ 1099511627776) :
    RdS w (fun b => (F b ∨ B ≤ b) ∧ b < w.heap.size) (.list l) (.iface 43 v) := by
  obtain ⟨xs, ho, hx⟩ := h
  obtain ⟨A, c, rfl⟩ := ownsRow_form ho
  refine ⟨A, c, rfl, hl, ⟨?_, ?_⟩, ?_⟩
  · rintro rfl
    rcases ho.2 with ⟨h, _⟩ | ⟨g, cap, cur, h, _⟩
    · injection h
    · injection h with h; cases h
  · rcases ho.2 with ⟨h, h0⟩ | ⟨g, cap, cur, h, _, _, hc, _⟩
    · omega
    · injection h with _ _ h; omega
  by_cases hn : l.length = 0
  · exact .inl (List.eq_nil_of_length_eq_zero hn)
  · obtain ⟨g, cap, hv, hg, hlt⟩ := ho.form (by omega)
    injection hv with hA _ hc
    subst hA
    refine .inr ⟨g, 0, rfl, ⟨.inr hg, hlt⟩, RdL.iff.2 fun i x hi => ?_⟩
    obtain ⟨u, hu, hr⟩ := hx i x hi
    exact ⟨u, by have := ho.cells (g := g) rfl i u hu; simpa [Addr.add_lit] using this, RdS.more (fun b hb => ⟨.inl hb.1, hb.2.1⟩) _ _ hr⟩
/- Likewise rows of fields. -/
def OwnD (F : Nat → Prop) (w : World) (B : Nat) (v : Value) (l : List (ByteArray × V)) : Prop :=
  ∃ xs, w.ownsRow B 39 2 v l.length xs ∧ ∀ (i : Nat) (p : ByteArray × V), l[i]? = some p → xs[i * 2]? = some (.string p.1) ∧ p.1.size ≤ 140737488351232 ∧ ∃ u, xs[i * 2 + 1]? = some u ∧ RdS w (Fresh F w v) p.2 u
theorem OwnD.form {F : Nat → Prop} {w : World} {B : Nat} {v : Value} {l : List (ByteArray × V)} (h : OwnD F w B v l) : ∃ A c, v = .slice A l.length c := by
  obtain ⟨xs, h, _⟩ := h; exact ownsRow_form h
theorem OwnD.below {F : Nat → Prop} {w w' : World} {B : Nat} {v : Value} {l : List (ByteArray × V)} (h : OwnD F w B v l) (hb : Below w.heap.size w w') : OwnD F w' B v l := by
  obtain ⟨xs, ho, hx⟩ := h
  refine ⟨xs, ownsRow_below ho hb, fun i x hi => ?_⟩
  obtain ⟨h1, h2, u, hu, hr⟩ := hx i x hi
  exact ⟨h1, h2, u, hu, RdS.more (fun b hb' => ⟨hb'.1, Nat.lt_of_lt_of_le hb'.2.1 hb.size, hb'.2.2⟩) _ _ (RdS.keep (fun p hp => hb.cell hp.2.1) _ _ hr)⟩
theorem OwnD.empty (F : Nat → Prop) (w : World) (B : Nat) (hB : B ≤ w.heap.size) : OwnD F (w.alloc (.cells #[] 39)) B (.slice (some ⟨w.heap.size, 0, none⟩) 0 0) [] :=
  ⟨[], ownsRow_empty w B _ 2 hB, fun i x h => by simp at h⟩
theorem OwnD.snoc {F : Nat → Prop} {w w2 : World} {B : Nat} {v : Value} {l : List (ByteArray × V)} {xs : List Value} {u : Value} {nm : ByteArray} {y : V} {g cap n : Nat} (hln : l.length = n)
    (hown : w.ownsRow B 39 2 v n xs) (hx : ∀ (i : Nat) (p : ByteArray × V), l[i]? = some p → xs[i * 2]? = some (.string p.1) ∧ p.1.size ≤ 140737488351232 ∧ ∃ u, xs[i * 2 + 1]? = some u ∧ RdS w (Fresh F w v) p.2 u)
    (hn : nm.size ≤ 140737488351232) (hy : RdS w (Fresh F w v) y u)
    (hown2 : w2.ownsRow B 39 2 (.slice (some ⟨g, 0, none⟩) (n + 1) cap) (n + 1) (xs ++ [.string nm, u])) (hg : w.grownBy w2 v.ownBlock) (hat : v.ownBlock = some g ∨ g = w.heap.size) :
    OwnD F w2 B (.slice (some ⟨g, 0, none⟩) (n + 1) cap) (l ++ [(nm, y)]) := by
  subst hln
  have hlen : xs.length = l.length * 2 := hown.1
  have mv : ∀ z t, RdS w (Fresh F w v) z t → RdS w2 (Fresh F w2 (.slice (some ⟨g, 0, none⟩) (l.length + 1) cap)) z t := by
    intro z t hz
    refine RdS.more (fun b hb => ⟨hb.1, Nat.lt_of_lt_of_le hb.2.1 hg.size, ?_⟩) _ _ (RdS.keep (grown_keep hg (fun b hb => ⟨hb.2.1, hb.2.2⟩)) _ _ hz)
    intro e
    simp only [Value.ownBlock, Option.some.injEq] at e
    subst e
    rcases hat with h | h
    · exact hb.2.2 h
    · have := hb.2.1; omega
  refine ⟨xs ++ [.string nm, u], by simpa using hown2, fun i x hi => ?_⟩
  by_cases h : i < l.length
  · rw [List.getElem?_append_left h] at hi
    obtain ⟨h1, h2, t, ht, hr⟩ := hx i x hi
    exact ⟨by rw [List.getElem?_append_left (by omega)]; exact h1, h2, t, by rw [List.getElem?_append_left (by omega)]; exact ht, mv _ _ hr⟩
  · have hi2 : i = l.length := by
      have := (List.getElem?_eq_some_iff.1 hi).1; simp at this; omega
    subst hi2
    simp at hi
    subst hi
    exact ⟨by rw [List.getElem?_append_right (by omega), hlen]; simp, hn, u, by rw [List.getElem?_append_right (by omega), hlen]; simp, mv _ _ hy⟩
def DictS (w : World) (S : Nat → Prop) (A : Option Addr) (l : List (ByteArray × V)) : Prop := l = [] ∨ ∃ b off, A = some ⟨b, off, none⟩ ∧ S b ∧ RdD w S b off l
theorem DictS.more {w : World} {S S' : Nat → Prop} {A : Option Addr} {l : List (ByteArray × V)} (h : DictS w S A l) (hS : ∀ b, S b → S' b) : DictS w S' A l := by
  refine h.imp id ?_
  rintro ⟨b, off, hA, hb, hr⟩
  refine ⟨b, off, hA, hS _ hb, RdD.iff.2 fun i x hx => ?_⟩
  obtain ⟨hn, hs, v, hv, hd⟩ := RdD.iff.1 hr i x hx
  exact ⟨hn, hs, v, hv, RdS.more hS _ _ hd⟩
theorem DictS.keep {w w' : World} {S : Nat → Prop} {A : Option Addr} {l : List (ByteArray × V)} (h : DictS w S A l) (hk : ∀ p : Addr, S p.block → w'.cell? p = w.cell? p) : DictS w' S A l := by
  refine h.imp id ?_
  rintro ⟨b, off, hA, hb, hr⟩
  refine ⟨b, off, hA, hb, RdD.iff.2 fun i x hx => ?_⟩
  obtain ⟨hn, hs, v, hv, hd⟩ := RdD.iff.1 hr i x hx
  exact ⟨(hk _ hb).trans hn, hs, v, (hk _ hb).trans hv, RdS.keep hk _ _ hd⟩
theorem OwnD.read {F : Nat → Prop} {w : World} {B : Nat} {v : Value} {l : List (ByteArray × V)} (h : OwnD F w B v l) :
    ∃ A c, v = .slice A l.length c ∧ DictS w (fun b => (F b ∨ B ≤ b) ∧ b < w.heap.size) A l := by
  obtain ⟨xs, ho, hx⟩ := h
  obtain ⟨A, c, rfl⟩ := ownsRow_form ho
  refine ⟨A, c, rfl, ?_⟩
  by_cases hn : l.length = 0
  · exact .inl (List.eq_nil_of_length_eq_zero hn)
  · obtain ⟨g, cap, hv, hg, hlt⟩ := ho.form (by omega)
    injection hv with hA _ hc
    subst hA
    refine .inr ⟨g, 0, rfl, ⟨.inr hg, hlt⟩, RdD.iff.2 fun i x hi => ?_⟩
    obtain ⟨h1, h2, u, hu, hr⟩ := hx i x hi
    refine ⟨by have := ho.cells (g := g) rfl _ _ h1; simpa [Addr.add_lit] using this, h2, u, by have := ho.cells (g := g) rfl _ _ hu; simpa [Addr.add_lit, Nat.add_assoc] using this, RdS.more (fun b hb => ⟨.inl hb.1, hb.2.1⟩) _ _ hr⟩
theorem RdS.face {w : World} {S : Nat → Prop} {x : V} {v : Value} (h : RdS w S x v) : v = .nilIface ∨ ∃ t y, v = .iface t y := by
  cases x with
  | nil => exact .inl h
  | bool b => exact .inr ⟨_, _, h⟩
  | int n => exact .inr ⟨_, _, h.1⟩
  | flt n => exact .inr ⟨_, _, h⟩
  | text s => exact .inr ⟨_, _, h.1⟩
  | bytes l => obtain ⟨A, c, h, _⟩ := h; exact .inr ⟨_, _, h⟩
  | ref n => exact .inr ⟨_, _, h.1⟩
  | list l => obtain ⟨A, c, h, _⟩ := h; exact .inr ⟨_, _, h⟩
  | dict l => obtain ⟨A, c, h, _⟩ := h; exact .inr ⟨_, _, h⟩
  | record a b c => obtain ⟨b, h, _⟩ := h; exact .inr ⟨_, _, h⟩
  | nothing => exact .inr ⟨_, _, h⟩
  | alien => obtain ⟨t, x, h, _⟩ := h; exact .inr ⟨_, _, h⟩
theorem news_at {W : World} {g : Nat} {T : TypeId} {l : List Value} (hg : g = W.heap.size) : ∀ j u, l[j]? = some u → (W.alloc (.cells l.toArray T)).cell? ((⟨g, 0, none⟩ : Addr).add j) = some u := by
  subst hg
  intro j u hu
  have h := cell_of_row (W.alloc (.cells l.toArray T)) W.heap.size j _ T (0, 0) (heap_alloc_new _ _)
  have e : (⟨W.heap.size, 0, none⟩ : Addr).add j = ⟨W.heap.size, j, none⟩ := by
    unfold Addr.add; split
    · rename_i e; subst e; rfl
    · simp
  rw [e, h]; simpa using hu
theorem one_of1 {a : Value} (ha : a.oneCell' = true) : ∀ u ∈ [a], u.oneCell' = true := by
  intro u hu; simp at hu; subst hu; exact ha
theorem one_of2 {a b : Value} (ha : a.oneCell' = true) (hb : b.oneCell' = true) : ∀ u ∈ [a, b], u.oneCell' = true := by
  intro u hu; simp at hu; rcases hu with rfl | rfl <;> assumption
def New (w w' : World) (b : Nat) : Prop := w.heap.size ≤ b ∧ b < w'.heap.size
/- What a callee has made lies apart from the row that its caller owns. -/
theorem fresh_of_new {F : Nat → Prop} {wr w1 w2 : World} {B : Nat} {e : TypeId} {size n : Nat} {v : Value} {xs : List Value} {x : V} {u : Value} (h : RdS w1 (New wr w1) x u) (hb : Below w1.heap.size w1 w2) (hF : ∀ b, wr.heap.size ≤ b → F b)
    (hown : wr.ownsRow B e size v n xs) : RdS w2 (Fresh F w2 v) x u := by
  refine RdS.more (fun b hb' => ⟨hF b hb'.1, Nat.lt_of_lt_of_le hb'.2 hb.size, fun he => ?_⟩) _ _ (RdS.keep (fun p hp => hb.cell hp.2) _ _ h)
  have := (hown.lt b he).2
  have := hb'.1
  omega
def bvals (l : List UInt8) : List Value := l.map fun x => .int .u8 (x.toNat : Int)
theorem bytes_of_row {w : World} {B : Nat} {T : TypeId} {v : Value} {l : List UInt8} (h : w.ownsRow B T 1 v l.length (bvals l)) :
    ∃ A c, v = .slice A l.length c ∧ (A = none → c = 0) ∧ ByteRow w (fun b => B ≤ b ∧ b < w.heap.size) A l := by
  by_cases hn : l.length = 0
  · rcases h.2 with ⟨rfl, _⟩ | ⟨g, cap, cur, rfl, _⟩
    · exact ⟨none, 0, by rw [hn], fun _ => rfl, .inl (List.eq_nil_of_length_eq_zero hn)⟩
    · exact ⟨_, cap, rfl, (fun h => by cases h), .inl (List.eq_nil_of_length_eq_zero hn)⟩
  · obtain ⟨g, cap, rfl, hg, hlt⟩ := h.form (by omega)
    refine ⟨_, cap, rfl, (fun h => by cases h), .inr ⟨g, 0, rfl, ⟨hg, hlt⟩, fun i x hx => ?_⟩⟩
    have := h.cells (g := g) rfl i (.int .u8 (x.toNat : Int)) (by unfold bvals; rw [List.getElem?_map, hx]; rfl)
    simpa [Addr.add_lit] using this
theorem one_bvals (l : List UInt8) : ∀ u ∈ bvals l, u.oneCell' = true := by
  intro u hu
  obtain ⟨x, _, rfl⟩ := List.mem_map.1 hu
  rfl
theorem ByteRow.news {w : World} {S : Nat → Prop} {ad : Addr} {l : List UInt8} (h : ByteRow w S (some ad) l) : ∀ j u, (bvals l)[j]? = some u → w.cell? (ad.add j) = some u := by
  intro j u hu
  rcases h with rfl | ⟨b, off, hA, _, hc⟩
  · simp [bvals] at hu
  · injection hA with hA
    subst hA
    unfold bvals at hu
    rw [List.getElem?_map] at hu
    cases e : l[j]? with
    | none => rw [e] at hu; cases hu
    | some x =>
      rw [e] at hu
      injection hu with hu
      subst hu
      have := hc j x e
      simpa [Addr.add_lit] using this
/- The cells that lie, one by one. -/
end Go.Proofs.YtobpkelblpdajaaGreatDoor
