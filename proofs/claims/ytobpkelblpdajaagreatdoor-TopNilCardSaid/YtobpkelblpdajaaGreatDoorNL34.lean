/- Rows of values that a call owns, of any kind. -/
import Derived.Test.YtobpkelblpdajaaGreatDoorNL12
set_option linter.unusedVariables false
set_option linter.unusedSimpArgs false
set_option linter.unusedSectionVars false
namespace Go.Proofs.YtobpkelblpdajaaGreatDoor
open Go Go.RowKit
/- All memory but one block is as it was. -/
structure Bes (bw : Nat) (w w' : World) : Prop where
  os : w'.os = w.os
  tape : w'.tape = w.tape
  output : w'.output = w.output
  size : w.heap.size ≤ w'.heap.size
  block : ∀ k, k < w.heap.size → k ≠ bw → w'.heap[k]? = w.heap[k]?
theorem Bes.refl (bw : Nat) (w : World) : Bes bw w w := ⟨rfl, rfl, rfl, Nat.le_refl _, fun _ _ _ => rfl⟩
theorem Bes.trans {bw : Nat} {a b c : World} (h : Bes bw a b) (k : Bes bw b c) : Bes bw a c :=
  ⟨k.os.trans h.os, k.tape.trans h.tape, k.output.trans h.output, Nat.le_trans h.size k.size, fun i hi hn => (k.block i (Nat.lt_of_lt_of_le hi h.size) hn).trans (h.block i hi hn)⟩
theorem Bes.of_below {bw : Nat} {w w' : World} (h : Below w.heap.size w w') : Bes bw w w' := ⟨h.os, h.tape, h.output, h.size, fun k hk _ => h.block k hk⟩
theorem Bes.cell {bw : Nat} {w w' : World} (h : Bes bw w w') {p : Addr} (hp : p.block < w.heap.size) (hn : p.block ≠ bw) : w'.cell? p = w.cell? p := World.cell?_of_block (w := w) (h.block p.block hp hn)
theorem Bes.frozen {bw : Nat} {w w' : World} (h : Bes bw w w') {p : Addr} (hp : p.block < w.heap.size) (hn : p.block ≠ bw) : w'.frozen? p = w.frozen? p := World.frozen?_of_block (w := w) (h.block p.block hp hn)
theorem Bes.set {bw : Nat} {a w : World} (h : Bes bw a w) (o : Nat) (u : Value) : Bes bw a (w.setCell ⟨bw, o, none⟩ u) := by
  have hb : Below bw w (w.setCell ⟨bw, o, none⟩ u) := (Below.refl bw w).setCell (p := ⟨bw, o, none⟩) (Nat.le_refl _) u
  exact h.trans ⟨hb.os, hb.tape, hb.output, hb.size, fun k _ hn => Below.heap_setCell w ⟨bw, o, none⟩ u k hn⟩
theorem Bes.below {bw : Nat} {w w' : World} (h : Bes bw w w') (hb : bw ≤ w.heap.size) : Below bw w w' := ⟨h.os, h.tape, h.output, h.size, fun k hk => h.block k (by omega) (by omega)⟩
/- How memory bears a value that takes so many cells. -/
structure Bears (α : Type) where
  size : Nat
  rd : World → (Nat → Prop) → α → List Value → Prop
  pos : 0 < size
  keep : ∀ {w w' : World} {S : Nat → Prop}, (∀ p : Addr, S p.block → w'.cell? p = w.cell? p) → ∀ x v, rd w S x v → rd w' S x v
  more : ∀ {w : World} {S S' : Nat → Prop}, (∀ b, S b → S' b) → ∀ x v, rd w S x v → rd w S' x v
  len : ∀ {w : World} {S : Nat → Prop} {x : α} {v : List Value}, rd w S x v → v.length = size
def RowsAt {α : Type} (R : Bears α) (w : World) (S : Nat → Prop) (A : Option Addr) (l : List α) : Prop := l = [] ∨ ∃ b off, A = some ⟨b, off, none⟩ ∧ S b ∧ ∀ (i : Nat) x, l[i]? = some x → ∃ v, Lie w b (off + i * R.size) v ∧ R.rd w S x v
theorem ownsRow_beside {w w' : World} {B bw : Nat} {e : TypeId} {size : Nat} {v : Value} {n : Nat} {xs : List Value} (h : w.ownsRow B e size v n xs) (hb : Bes bw w w') (hB : bw < B) : w'.ownsRow B e size v n xs := by
  refine ⟨h.1, ?_⟩
  rcases h.2 with hn | ⟨g, cap, cur, rfl, hg, hgg, rest⟩
  · exact .inl hn
  · exact .inr ⟨g, cap, cur, rfl, hg, by rw [hb.block g (Array.getElem?_eq_some_iff.1 hgg).1 (by omega)]; exact hgg, rest⟩
def OwnR {α : Type} (R : Bears α) (e : TypeId) (F : Nat → Prop) (w : World) (B : Nat) (v : Value) (l : List α) : Prop :=
  ∃ xs, w.ownsRow B e R.size v l.length xs ∧ ∀ (i : Nat) (x : α), l[i]? = some x → ∃ u, (∀ j y, u[j]? = some y → xs[i * R.size + j]? = some y) ∧ R.rd w (Fresh F w v) x u
section
variable {α : Type} {R : Bears α} {e : TypeId}
theorem RowsAt.more {w : World} {S S' : Nat → Prop} {A : Option Addr} {l : List α} (h : RowsAt R w S A l) (hS : ∀ b, S b → S' b) : RowsAt R w S' A l := by
  refine h.imp id ?_
  rintro ⟨b, off, hA, hb, hr⟩
  refine ⟨b, off, hA, hS _ hb, fun i x hx => ?_⟩
  obtain ⟨v, hv, hd⟩ := hr i x hx
  exact ⟨v, hv, R.more hS _ _ hd⟩
theorem RowsAt.keep {w w' : World} {S : Nat → Prop} {A : Option Addr} {l : List α} (h : RowsAt R w S A l) (hk : ∀ p : Addr, S p.block → w'.cell? p = w.cell? p) : RowsAt R w' S A l := by
  refine h.imp id ?_
  rintro ⟨b, off, hA, hb, hr⟩
  refine ⟨b, off, hA, hb, fun i x hx => ?_⟩
  obtain ⟨v, hv, hd⟩ := hr i x hx
  exact ⟨v, hv.keep (fun p hp => hk p (by rw [hp]; exact hb)), R.keep hk _ _ hd⟩
theorem RowsAt.get {w : World} {S : Nat → Prop} {A : Option Addr} {l : List α} (h : RowsAt R w S A l) {k : Nat} {x : α} (hx : l[k]? = some x) : ∃ b off v, A = some ⟨b, off, none⟩ ∧ S b ∧ Lie w b (off + k * R.size) v ∧ R.rd w S x v := by
  rcases h with h | ⟨b, off, hA, hb, hr⟩
  · subst h; simp at hx
  · obtain ⟨v, hv, hd⟩ := hr k x hx
    exact ⟨b, off, v, hA, hb, hv, hd⟩
theorem OwnR.form {F : Nat → Prop} {w : World} {B : Nat} {v : Value} {l : List α} (h : OwnR R e F w B v l) : ∃ A c, v = .slice A l.length c := by
  obtain ⟨xs, h, _⟩ := h; exact ownsRow_form h
theorem OwnR.below {F : Nat → Prop} {w w' : World} {B : Nat} {v : Value} {l : List α} (h : OwnR R e F w B v l) (hb : Below w.heap.size w w') : OwnR R e F w' B v l := by
  obtain ⟨xs, ho, hx⟩ := h
  refine ⟨xs, ownsRow_below ho hb, fun i x hi => ?_⟩
  obtain ⟨u, hu, hr⟩ := hx i x hi
  exact ⟨u, hu, R.more (fun b hb' => ⟨hb'.1, Nat.lt_of_lt_of_le hb'.2.1 hb.size, hb'.2.2⟩) _ _ (R.keep (fun p hp => hb.cell hp.2.1) _ _ hr)⟩
theorem OwnR.empty (F : Nat → Prop) (w : World) (B : Nat) (hB : B ≤ w.heap.size) : OwnR R e F (w.alloc (.cells #[] e)) B (.slice (some ⟨w.heap.size, 0, none⟩) 0 0) [] :=
  ⟨[], ownsRow_empty w B _ R.size hB, fun i x h => by simp at h⟩
theorem OwnR.nil (F : Nat → Prop) (w : World) (B : Nat) : OwnR R e F w B (.slice none 0 0) [] :=
  ⟨[], ⟨by simp, .inl ⟨rfl, rfl⟩⟩, fun i x h => by simp at h⟩
theorem OwnR.snoc {F : Nat → Prop} {w w2 : World} {B : Nat} {v : Value} {l : List α} {xs u : List Value} {y : α} {g cap n : Nat} (hln : l.length = n)
    (hown : w.ownsRow B e R.size v n xs) (hx : ∀ (i : Nat) (x : α), l[i]? = some x → ∃ u, (∀ j y, u[j]? = some y → xs[i * R.size + j]? = some y) ∧ R.rd w (Fresh F w v) x u) (hy : R.rd w (Fresh F w v) y u)
    (hown2 : w2.ownsRow B e R.size (.slice (some ⟨g, 0, none⟩) (n + 1) cap) (n + 1) (xs ++ u)) (hg : w.grownBy w2 v.ownBlock) (hat : v.ownBlock = some g ∨ g = w.heap.size) :
    OwnR R e F w2 B (.slice (some ⟨g, 0, none⟩) (n + 1) cap) (l ++ [y]) := by
  subst hln
  have hlen : xs.length = l.length * R.size := hown.1
  have mv : ∀ z t, R.rd w (Fresh F w v) z t → R.rd w2 (Fresh F w2 (.slice (some ⟨g, 0, none⟩) (l.length + 1) cap)) z t := by
    intro z t hz
    refine R.more (fun b hb => ⟨hb.1, Nat.lt_of_lt_of_le hb.2.1 hg.size, ?_⟩) _ _ (R.keep (grown_keep hg (fun b hb => ⟨hb.2.1, hb.2.2⟩)) _ _ hz)
    intro e
    simp only [Value.ownBlock, Option.some.injEq] at e
    subst e
    rcases hat with h | h
    · exact hb.2.2 h
    · have := hb.2.1; omega
  refine ⟨xs ++ u, by simpa using hown2, fun i x hi => ?_⟩
  by_cases h : i < l.length
  · rw [List.getElem?_append_left h] at hi
    obtain ⟨t, ht, hr⟩ := hx i x hi
    exact ⟨t, fun j y hj => by rw [List.getElem?_append_left (List.getElem?_eq_some_iff.1 (ht j y hj)).1]; exact ht j y hj, mv _ _ hr⟩
  · have hi2 : i = l.length := by
      have := (List.getElem?_eq_some_iff.1 hi).1; simp at this; omega
    subst hi2
    simp at hi
    subst hi
    exact ⟨u, fun j y hj => by rw [List.getElem?_append_right (by omega), hlen, Nat.add_sub_cancel_left]; exact hj, mv _ _ hy⟩
theorem OwnR.read {F : Nat → Prop} {w : World} {B : Nat} {v : Value} {l : List α} (h : OwnR R e F w B v l) :
    ∃ A c, v = .slice A l.length c ∧ RowsAt R w (fun b => (F b ∨ B ≤ b) ∧ b < w.heap.size) A l := by
  obtain ⟨xs, ho, hx⟩ := h
  obtain ⟨A, c, rfl⟩ := ownsRow_form ho
  refine ⟨A, c, rfl, ?_⟩
  by_cases hn : l.length = 0
  · exact .inl (List.eq_nil_of_length_eq_zero hn)
  · obtain ⟨g, cap, hv, hg, hlt⟩ := ho.form (by omega)
    injection hv with hA _ hc
    subst hA
    refine .inr ⟨g, 0, rfl, ⟨.inr hg, hlt⟩, fun i x hi => ?_⟩
    obtain ⟨u, hu, hr⟩ := hx i x hi
    refine ⟨u, fun j y hj => by have := ho.cells (g := g) rfl _ _ (hu j y hj); simpa [Addr.add_lit, Nat.add_assoc] using this, R.more (fun b hb => ⟨.inl hb.1, hb.2.1⟩) _ _ hr⟩
theorem OwnR.beside {F : Nat → Prop} {w w' : World} {B bw : Nat} {v : Value} {l : List α} (h : OwnR R e F w B v l) (hb : Bes bw w w') (hB : bw < B) (hF : ∀ b, F b → b ≠ bw) : OwnR R e F w' B v l := by
  obtain ⟨xs, ho, hx⟩ := h
  refine ⟨xs, ?_, fun i x hi => ?_⟩
  · exact ownsRow_beside ho hb hB
  · obtain ⟨u, hu, hr⟩ := hx i x hi
    exact ⟨u, hu, R.more (fun b hb' => ⟨hb'.1, Nat.lt_of_lt_of_le hb'.2.1 hb.size, hb'.2.2⟩) _ _ (R.keep (fun p hp => hb.cell hp.2.1 (hF _ hp.1)) _ _ hr)⟩
/- What a callee has made, or found, lies apart from the row that its caller owns. -/
theorem fresh_of_newR {F : Nat → Prop} {wr w1 w2 : World} {B : Nat} {S : Nat → Prop} {size n : Nat} {v : Value} {xs : List Value} {x : α} {u : List Value} (h : R.rd w1 (fun b => S b ∨ New wr w1 b) x u) (hb : Below w1.heap.size w1 w2) (hw : wr.heap.size ≤ w1.heap.size) (hF : ∀ b, wr.heap.size ≤ b → F b)
    (hS : ∀ b, S b → F b ∧ b < B ∧ b < wr.heap.size) (hown : wr.ownsRow B e size v n xs) : R.rd w2 (Fresh F w2 v) x u := by
  have hlt : ∀ b, (S b ∨ New wr w1 b) → b < w1.heap.size := fun b hb' => hb'.elim (fun h => Nat.lt_of_lt_of_le (hS b h).2.2 hw) (fun h => h.2)
  refine R.more (fun b hb' => ⟨hb'.elim (fun h => (hS b h).1) (fun h => hF b h.1), Nat.lt_of_lt_of_le (hlt b hb') hb.size, fun he => ?_⟩) _ _ (R.keep (fun p hp => hb.cell (hlt _ hp)) _ _ h)
  have h1 := (hown.lt b he).1
  have h2 := (hown.lt b he).2
  rcases hb' with h | h
  · have := (hS b h).2.1; omega
  · have := h.1; omega
end
theorem RdTS.len11 {w : World} {S : Nat → Prop} {x : Tm} {v : List Value} (h : RdTS w S x v) : v.length = 11 := by
  cases x with
  | mk k b i f t bs r l d c v => obtain ⟨Ab, cb, Al, cl, Ad, cd, rfl, _⟩ := h; rfl
def bearsT : Bears Tm := ⟨11, RdTS, by decide, fun hk x v h => RdTS.keep hk x v h, fun hS x v h => RdTS.more hS x v h, fun h => h.len11⟩
def RdTE (w : World) (S : Nat → Prop) (p : ByteArray × Tm) (v : List Value) : Prop := ∃ y, v = .string p.1 :: y ∧ p.1.size ≤ 140737488351232 ∧ RdTS w S p.2 y
def bearsE : Bears (ByteArray × Tm) := ⟨12, RdTE, by decide, fun hk x v ⟨y, h1, h2, h3⟩ => ⟨y, h1, h2, RdTS.keep hk _ _ h3⟩, fun hS x v ⟨y, h1, h2, h3⟩ => ⟨y, h1, h2, RdTS.more hS _ _ h3⟩, fun ⟨y, h1, h2, h3⟩ => by rw [h1, List.length_cons, h3.len11]⟩
def bearsS : Bears ByteArray := ⟨1, fun _ _ s v => v = [.string s] ∧ s.size ≤ 140737488351232, by decide, fun _ _ _ h => h, fun _ _ _ h => h, fun h => by rw [h.1]; rfl⟩
theorem rowsT_iff {w : World} {S : Nat → Prop} {A : Option Addr} {l : List Tm} : RowsAt bearsT w S A l ↔ (l = [] ∨ ∃ b off, A = some ⟨b, off, none⟩ ∧ S b ∧ RdTL w S b off l) := by
  unfold RowsAt
  constructor
  · exact fun h => h.imp id fun ⟨b, off, h1, h2, h3⟩ => ⟨b, off, h1, h2, RdTL.iff.2 h3⟩
  · exact fun h => h.imp id fun ⟨b, off, h1, h2, h3⟩ => ⟨b, off, h1, h2, RdTL.iff.1 h3⟩
theorem rowsE_iff {w : World} {S : Nat → Prop} {A : Option Addr} {l : List (ByteArray × Tm)} : RowsAt bearsE w S A l ↔ (l = [] ∨ ∃ b off, A = some ⟨b, off, none⟩ ∧ S b ∧ RdTD w S b off l) := by
  unfold RowsAt
  constructor
  · refine fun h => h.imp id fun ⟨b, off, h1, h2, h3⟩ => ⟨b, off, h1, h2, RdTD.iff.2 fun i p hp => ?_⟩
    obtain ⟨v, hv, y, rfl, hs, hT⟩ := h3 i p hp
    refine ⟨by simpa [bearsE] using hv 0 _ rfl, hs, y, fun j u hj => ?_, hT⟩
    have := hv (j + 1) u (by simpa using hj)
    rwa [show off + i * bearsE.size + (j + 1) = off + i * 12 + 1 + j by show off + i * 12 + (j + 1) = _; omega] at this
  · refine fun h => h.imp id fun ⟨b, off, h1, h2, h3⟩ => ⟨b, off, h1, h2, fun i p hp => ?_⟩
    obtain ⟨hn, hs, y, hv, hT⟩ := RdTD.iff.1 h3 i p hp
    refine ⟨.string p.1 :: y, fun j u hj => ?_, y, rfl, hs, hT⟩
    cases j with
    | zero => simp at hj; subst hj; simpa [bearsE] using hn
    | succ j =>
      have := hv j u (by simpa using hj)
      show w.cell? ⟨b, off + i * 12 + (j + 1), none⟩ = _
      rwa [show off + i * 12 + (j + 1) = off + i * 12 + 1 + j by omega]
end Go.Proofs.YtobpkelblpdajaaGreatDoor
