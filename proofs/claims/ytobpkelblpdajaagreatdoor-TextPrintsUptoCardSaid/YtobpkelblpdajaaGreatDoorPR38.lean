/- Rows of values that a call owns, of any kind. -/
import Derived.Test.YtobpkelblpdajaaGreatDoorPR08
import Derived.Test.YtobpkelblpdajaaGreatDoorPR37
import Derived.Laws.AppendOwnNone
set_option linter.unusedVariables false
set_option linter.unusedSimpArgs false
set_option linter.unusedSectionVars false
namespace Go.Proofs.YtobpkelblpdajaaGreatDoor
open Go Go.RowKit
/- All memory but one block is as it was. -/
structure Bes (bw : Nat) (w w' : World) : Prop where
  os : w'.os = w.os
  tape : w'.tape = w.tape
  output : w'.output = w.output
  size : w.heap.size ≤ w'.heap.size
  block : ∀ k, k < w.heap.size → k ≠ bw → w'.heap[k]? = w.heap[k]?
theorem Bes.refl (bw : Nat) (w : World) : Bes bw w w := ⟨rfl, rfl, rfl, Nat.le_refl _, fun _ _ _ => rfl⟩
theorem Bes.trans {bw : Nat} {a b c : World} (h : Bes bw a b) (k : Bes bw b c) : Bes bw a c :=
  ⟨k.os.trans h.os, k.tape.trans h.tape, k.output.trans h.output, Nat.le_trans h.size k.size, fun i hi hn => (k.block i (Nat.lt_of_lt_of_le hi h.size) hn).trans (h.block i hi hn)⟩
theorem Bes.of_below {bw : Nat} {w w' : World} (h : Below w.heap.size w w') : Bes bw w w' := ⟨h.os, h.tape, h.output, h.size, fun k hk _ => h.block k hk⟩
theorem Bes.cell {bw : Nat} {w w' : World} (h : Bes bw w w') {p : Addr} (hp : p.block < w.heap.size) (hn : p.block ≠ bw) : w'.cell? p = w.cell? p := World.cell?_of_block (w := w) (h.block p.block hp hn)
theorem Bes.frozen {bw : Nat} {w w' : World} (h : Bes bw w w') {p : Addr} (hp : p.block < w.heap.size) (hn : p.block ≠ bw) : w'.frozen? p = w.frozen? p := World.frozen?_of_block (w := w) (h.block p.block hp hn)
theorem Bes.set {bw : Nat} {a w : World} (h : Bes bw a w) (o : Nat) (u : Value) : Bes bw a (w.setCell ⟨bw, o, none⟩ u) := by
  have hb : Below bw w (w.setCell ⟨bw, o, none⟩ u) := (Below.refl bw w).setCell (p := ⟨bw, o, none⟩) (Nat.le_refl _) u
  exact h.trans ⟨hb.os, hb.tape, hb.output, hb.size, fun k _ hn => Below.heap_setCell w ⟨bw, o, none⟩ u k hn⟩
theorem Bes.below {bw : Nat} {w w' : World} (h : Bes bw w w') (hb : bw ≤ w.heap.size) : Below bw w w' := ⟨h.os, h.tape, h.output, h.size, fun k hk => h.block k (by omega) (by omega)⟩
/- How memory bears a value that takes so many cells. -/
structure Bears (α : Type) where
  size : Nat
  rd : World → (Nat → Prop) → α → List Value → Prop
  pos : 0 < size
  keep : ∀ {w w' : World} {S : Nat → Prop}, (∀ p : Addr, S p.block → w'.cell? p = w.cell? p) → ∀ x v, rd w S x v → rd w' S x v
  more : ∀ {w : World} {S S' : Nat → Prop}, (∀ b, S b → S' b) → ∀ x v, rd w S x v → rd w S' x v
  len : ∀ {w : World} {S : Nat → Prop} {x : α} {v : List Value}, rd w S x v → v.length = size
def RowsAt {α : Type} (R : Bears α) (w : World) (S : Nat → Prop) (A : Option Addr) (l : List α) : Prop := l = [] ∨ ∃ b off, A = some ⟨b, off, none⟩ ∧ S b ∧ ∀ (i : Nat) x, l[i]? = some x → ∃ v, Lie w b (off + i * R.size) v ∧ R.rd w S x v
theorem ownsRow_beside {w w' : World} {B bw : Nat} {e : TypeId} {size : Nat} {v : Value} {n : Nat} {xs : List Value} (h : w.ownsRow B e size v n xs) (hb : Bes bw w w') (hB : bw < B) : w'.ownsRow B e size v n xs := by
  refine ⟨h.1, ?_⟩
  rcases h.2 with hn | ⟨g, cap, cur, rfl, hg, hgg, rest⟩
  · exact .inl hn
  · exact .inr ⟨g, cap, cur, rfl, hg, by rw [hb.block g (Array.getElem?_eq_some_iff.1 hgg).1 (by omega)]; exact hgg, rest⟩
def OwnR {α : Type} (R : Bears α) (e : TypeId) (F : Nat → Prop) (w : World) (B : Nat) (v : Value) (l : List α) : Prop :=
  ∃ xs, w.ownsRow B e R.size v l.length xs ∧ ∀ (i : Nat) (x : α), l[i]? = some x → ∃ u, (∀ j y, u[j]? = some y → xs[i * R.size + j]? = some y) ∧ R.rd w (Fresh F w v) x u
section
variable {α : Type} {R : Bears α} {e : TypeId}
theorem RowsAt.more {w : World} {S S' : Nat → Prop} {A : Option Addr} {l : List α} (h : RowsAt R w S A l) (hS : ∀ b, S b → S' b) : RowsAt R w S' A l := by
  refine h.imp id ?_
  rintro ⟨b, off, hA, hb, hr⟩
  refine ⟨b, off, hA, hS _ hb, fun i x hx => ?_⟩
  obtain ⟨v, hv, hd⟩ := hr i x hx
  exact ⟨v, hv, R.more hS _ _ hd⟩
theorem RowsAt.keep {w w' : World} {S : Nat → Prop} {A : Option Addr} {l : List α} (h : RowsAt R w S A l) (hk : ∀ p : Addr, S p.block → w'.cell? p = w.cell? p) : RowsAt R w' S A l := by
  refine h.imp id ?_
  rintro ⟨b, off, hA, hb, hr⟩
  refine ⟨b, off, hA, hb, fun i x hx => ?_⟩
  obtain ⟨v, hv, hd⟩ := hr i x hx
  exact ⟨v, hv.keep (fun p hp => hk p (by rw [hp]; exact hb)), R.keep hk _ _ hd⟩
theorem RowsAt.get {w : World} {S : Nat → Prop} {A : Option Addr} {l : List α} (h : RowsAt R w S A l) {k : Nat} {x : α} (hx : l[k]? = some x) : ∃ b off v, A = some ⟨b, off, none⟩ ∧ S b ∧ Lie w b (off + k * R.size) v ∧ R.rd w S x v := by
  rcases h with h | ⟨b, off, hA, hb, hr⟩
  · subst h; simp at hx
  · obtain ⟨v, hv, hd⟩ := hr k x hx
    exact ⟨b, off, v, hA, hb, hv, hd⟩
theorem OwnR.form {F : Nat → Prop} {w : World} {B : Nat} {v : Value} {l : List α} (h : OwnR R e F w B v l) : ∃ A c, v = .slice A l.length c := by
  obtain ⟨xs, h, _⟩ := h; exact ownsRow_form h
theorem OwnR.below {F : Nat → Prop} {w w' : World} {B : Nat} {v : Value} {l : List α} (h : OwnR R e F w B v l) (hb : Below w.heap.size w w') : OwnR R e F w' B v l := by
  obtain ⟨xs, ho, hx⟩ := h
  refine ⟨xs, ownsRow_below ho hb, fun i x hi => ?_⟩
  obtain ⟨u, hu, hr⟩ := hx i x hi
  exact ⟨u, hu, R.more (fun b hb' => ⟨hb'.1, Nat.lt_of_lt_of_le hb'.2.1 hb.size, hb'.2.2⟩) _ _ (R.keep (fun p hp => hb.cell hp.2.1) _ _ hr)⟩
theorem OwnR.empty (F : Nat → Prop) (w : World) (B : Nat) (hB : B ≤ w.heap.size) : OwnR R e F (w.alloc (.cells #[] e)) B (.slice (some ⟨w.heap.size, 0, none⟩) 0 0) [] :=
  ⟨[], ownsRow_empty w B _ R.size hB, fun i x h => by simp at h⟩
theorem OwnR.nil (F : Nat → Prop) (w : World) (B : Nat) : OwnR R e F w B (.slice none 0 0) [] :=
  ⟨[], ⟨by simp, .inl ⟨rfl, rfl⟩⟩, fun i x h => by simp at h⟩
theorem OwnR.snoc {F : Nat → Prop} {w w2 : World} {B : Nat} {v : Value} {l : List α} {xs u : List Value} {y : α} {g cap n : Nat} (hln : l.length = n)
    (hown : w.ownsRow B e R.size v n xs) (hx : ∀ (i : Nat) (x : α), l[i]? = some x → ∃ u, (∀ j y, u[j]? = some y → xs[i * R.size + j]? = some y) ∧ R.rd w (Fresh F w v) x u) (hy : R.rd w (Fresh F w v) y u)
    (hown2 : w2.ownsRow B e R.size (.slice (some ⟨g, 0, none⟩) (n + 1) cap) (n + 1) (xs ++ u)) (hg : w.grownBy w2 v.ownBlock) (hat : v.ownBlock = some g ∨ g = w.heap.size) :
    OwnR R e F w2 B (.slice (some ⟨g, 0, none⟩) (n + 1) cap) (l ++ [y]) := by
  subst hln
  have hlen : xs.length = l.length * R.size := hown.1
  have mv : ∀ z t, R.rd w (Fresh F w v) z t → R.rd w2 (Fresh F w2 (.slice (some ⟨g, 0, none⟩) (l.length + 1) cap)) z t := by
    intro z t hz
    refine R.more (fun b hb => ⟨hb.1, Nat.lt_of_lt_of_le hb.2.1 hg.size, ?_⟩) _ _ (R.keep (grown_keep hg (fun b hb => ⟨hb.2.1, hb.2.2⟩)) _ _ hz)
    intro e
    simp only [Value.ownBlock, Option.some.injEq] at e
    subst e
    rcases hat with h | h
    · exact hb.2.2 h
    · have := hb.2.1; omega
  refine ⟨xs ++ u, by simpa using hown2, fun i x hi => ?_⟩
  by_cases h : i < l.length
  · rw [List.getElem?_append_left h] at hi
    obtain ⟨t, ht, hr⟩ := hx i x hi
    exact ⟨t, fun j y hj => by rw [List.getElem?_append_left (List.getElem?_eq_some_iff.1 (ht j y hj)).1]; exact ht j y hj, mv _ _ hr⟩
  · have hi2 : i = l.length := by
      have := (List.getElem?_eq_some_iff.1 hi).1; simp at this; omega
    subst hi2
    simp at hi
    subst hi
    exact ⟨u, fun j y hj => by rw [List.getElem?_append_right (by omega), hlen, Nat.add_sub_cancel_left]; exact hj, mv _ _ hy⟩
theorem OwnR.read {F : Nat → Prop} {w : World} {B : Nat} {v : Value} {l : List α} (h : OwnR R e F w B v l) :
    ∃ A c, v = .slice A l.length c ∧ RowsAt R w (fun b => (F b ∨ B ≤ b) ∧ b < w.heap.size) A l := by
  obtain ⟨xs, ho, hx⟩ := h
  obtain ⟨A, c, rfl⟩ := ownsRow_form ho
  refine ⟨A, c, rfl, ?_⟩
  by_cases hn : l.length = 0
  · exact .inl (List.eq_nil_of_length_eq_zero hn)
  · obtain ⟨g, cap, hv, hg, hlt⟩ := ho.form (by omega)
    injection hv with hA _ hc
    subst hA
    refine .inr ⟨g, 0, rfl, ⟨.inr hg, hlt⟩, fun i x hi => ?_⟩
    obtain ⟨u, hu, hr⟩ := hx i x hi
    refine ⟨u, fun j y hj => by have := ho.cells (g := g) rfl _ _ (hu j y hj); simpa [Addr.add_lit, Nat.add_assoc] using this, R.more (fun b hb => ⟨.inl hb.1, hb.2.1⟩) _ _ hr⟩
theorem OwnR.beside {F : Nat → Prop} {w w' : World} {B bw : Nat} {v : Value} {l : List α} (h : OwnR R e F w B v l) (hb : Bes bw w w') (hB : bw < B) (hF : ∀ b, F b → b ≠ bw) : OwnR R e F w' B v l := by
  obtain ⟨xs, ho, hx⟩ := h
  refine ⟨xs, ?_, fun i x hi => ?_⟩
  · exact ownsRow_beside ho hb hB
  · obtain ⟨u, hu, hr⟩ := hx i x hi
    exact ⟨u, hu, R.more (fun b hb' => ⟨hb'.1, Nat.lt_of_lt_of_le hb'.2.1 hb.size, hb'.2.2⟩) _ _ (R.keep (fun p hp => hb.cell hp.2.1 (hF _ hp.1)) _ _ hr)⟩
/- What a callee has made, or found, lies apart from the row that its caller owns. -/
theorem fresh_of_newR {F : Nat → Prop} {wr w1 w2 : World} {B : Nat} {S : Nat → Prop} {size n : Nat} {v : Value} {xs : List Value} {x : α} {u : List Value} (h : R.rd w1 (fun b => S b ∨ New wr w1 b) x u) (hb : Below w1.heap.size w1 w2) (hw : wr.heap.size ≤ w1.heap.size) (hF : ∀ b, wr.heap.size ≤ b → F b)
    (hS : ∀ b, S b → F b ∧ b < B ∧ b < wr.heap.size) (hown : wr.ownsRow B e size v n xs) : R.rd w2 (Fresh F w2 v) x u := by
  have hlt : ∀ b, (S b ∨ New wr w1 b) → b < w1.heap.size := fun b hb' => hb'.elim (fun h => Nat.lt_of_lt_of_le (hS b h).2.2 hw) (fun h => h.2)
  refine R.more (fun b hb' => ⟨hb'.elim (fun h => (hS b h).1) (fun h => hF b h.1), Nat.lt_of_lt_of_le (hlt b hb') hb.size, fun he => ?_⟩) _ _ (R.keep (fun p hp => hb.cell (hlt _ hp)) _ _ h)
  have h1 := (hown.lt b he).1
  have h2 := (hown.lt b he).2
  rcases hb' with h | h
  · have := (hS b h).2.1; omega
  · have := h.1; omega
end
theorem RdTS.len11 {w : World} {S : Nat → Prop} {x : Tm} {v : List Value} (h : RdTS w S x v) : v.length = 11 := by
  cases x with
  | mk k b i f t bs r l d c v => obtain ⟨Ab, cb, Al, cl, Ad, cd, rfl, _⟩ := h; rfl
def bearsT : Bears Tm := ⟨11, RdTS, by decide, fun hk x v h => RdTS.keep hk x v h, fun hS x v h => RdTS.more hS x v h, fun h => h.len11⟩
def RdTE (w : World) (S : Nat → Prop) (p : ByteArray × Tm) (v : List Value) : Prop := ∃ y, v = .string p.1 :: y ∧ p.1.size ≤ 140737488351232 ∧ RdTS w S p.2 y
def bearsE : Bears (ByteArray × Tm) := ⟨12, RdTE, by decide, fun hk x v ⟨y, h1, h2, h3⟩ => ⟨y, h1, h2, RdTS.keep hk _ _ h3⟩, fun hS x v ⟨y, h1, h2, h3⟩ => ⟨y, h1, h2, RdTS.more hS _ _ h3⟩, fun ⟨y, h1, h2, h3⟩ => by rw [h1, List.length_cons, h3.len11]⟩
theorem rowsT_iff {w : World} {S : Nat → Prop} {A : Option Addr} {l : List Tm} : RowsAt bearsT w S A l ↔ (l = [] ∨ ∃ b off, A = some ⟨b, off, none⟩ ∧ S b ∧ RdTL w S b off l) := by
  unfold RowsAt
  constructor
  · exact fun h => h.imp id fun ⟨b, off, h1, h2, h3⟩ => ⟨b, off, h1, h2, RdTL.iff.2 h3⟩
  · exact fun h => h.imp id fun ⟨b, off, h1, h2, h3⟩ => ⟨b, off, h1, h2, RdTL.iff.1 h3⟩
theorem rowsE_iff {w : World} {S : Nat → Prop} {A : Option Addr} {l : List (ByteArray × Tm)} : RowsAt bearsE w S A l ↔ (l = [] ∨ ∃ b off, A = some ⟨b, off, none⟩ ∧ S b ∧ RdTD w S b off l) := by
  unfold RowsAt
  constructor
  · refine fun h => h.imp id fun ⟨b, off, h1, h2, h3⟩ => ⟨b, off, h1, h2, RdTD.iff.2 fun i p hp => ?_⟩
    obtain ⟨v, hv, y, rfl, hs, hT⟩ := h3 i p hp
    refine ⟨by simpa [bearsE] using hv 0 _ rfl, hs, y, fun j u hj => ?_, hT⟩
    have := hv (j + 1) u (by simpa using hj)
    rwa [show off + i * bearsE.size + (j + 1) = off + i * 12 + 1 + j by show off + i * 12 + (j + 1) = _; omega] at this
  · refine fun h => h.imp id fun ⟨b, off, h1, h2, h3⟩ => ⟨b, off, h1, h2, fun i p hp => ?_⟩
    obtain ⟨hn, hs, y, hv, hT⟩ := RdTD.iff.1 h3 i p hp
    refine ⟨.string p.1 :: y, fun j u hj => ?_, y, rfl, hs, hT⟩
    cases j with
    | zero => simp at hj; subst hj; simpa [bearsE] using hn
    | succ j =>
      have := hv j u (by simpa using hj)
      show w.cell? ⟨b, off + i * 12 + (j + 1), none⟩ = _
      rwa [show off + i * 12 + (j + 1) = off + i * 12 + 1 + j by omega]
end Go.Proofs.YtobpkelblpdajaaGreatDoor
/- Walks: the terms that a term holds (the document's Parts). -/
namespace Go.Proofs.YtobpkelblpdajaaGreatDoor
open Go Go.RowKit
theorem Tryz.infoTerm : (Tryz.prog.info? 29).map (fun i => (i.zero, i.size, i.bytes)) = some (some (.agg #[.int .i64 0, .bool false, .int .i64 0, .float .f64 0, .string ⟨#[]⟩, .slice none 0 0, .int .u64 0, .slice none 0 0, .slice none 0 0, .string ⟨#[]⟩, .int .i64 0]), 11, 152) := by kernel_rfl
def partsT : Tm → List Tm
  | .mk k _ _ _ _ _ _ l d _ _ => if k = 8 then l else if k = 9 ∨ k = 10 then d.map (·.2) else []
def TermsPost (S : Nat → Prop) (l : List Tm) (w : World) (e : Ending) (w' : World) : Prop := ∃ A c, e = .returned (.slice A l.length c) ∧ RowsAt bearsT w' (fun b => S b ∨ New w w' b) A l ∧ Below w.heap.size w w'
section
variable (b : Bool) (i : Int) (f : Nat) (t : ByteArray) (bs : List UInt8) (r : Int) (l : List Tm) (d : List (ByteArray × Tm)) (c : ByteArray) (v : Int) (x : List Value) (w : World) (S : Nat → Prop) (hS : ∀ b, S b → b < w.heap.size)
include hS
set_option maxRecDepth 100000 in
set_option maxHeartbeats 2000000 in
theorem rparts_8 (hx : RdTS w S (.mk 8 b i f t bs r l d c v) x) : Calls Tryz.prog 84 #[termOf x] w (TermsPost S (partsT (.mk 8 b i f t bs r l d c v)) w) := by
  obtain ⟨Ab, cb, Al, cl, Ad, cd, rfl, hk, hi, ht, hbl, ⟨hbn, hbs⟩, hr0, hr1, hc, hv, ⟨hll, hl⟩, ⟨hdl, hd⟩⟩ := hx
  have HP : Hid (partsT (.mk 8 b i f t bs r l d c v) = l) := Lib.hid (by simp [partsT])
  have HL : Hid (∀ W, Below w.heap.size w W → RowsAt bearsT W (fun b => S b ∨ New w W b) Al l) := Lib.hid fun W hW => RowsAt.more (RowsAt.keep (rowsT_iff.2 hl) (fun p hp => hW.cell (hS _ hp))) (fun b hb => .inl hb)
  clear hbs hl hd
  unfold termOf
  go_enter Tryz.func84, Tryz.ntmps84
  go_wp2
  go_ret
  rw [HP.out]
  have hb := (Below.refl w.heap.size w).alloc (Nat.le_refl _) (.cells #[.int .i64 8, .bool b, .int .i64 i, .float .f64 f, .string t, .slice Ab bs.length cb, .int .u64 r, .slice Al l.length cl, .slice Ad d.length cd, .string c, .int .i64 v] 29)
  exact ⟨Al, cl, rfl, HL.out _ hb, hb⟩
set_option maxRecDepth 100000 in
set_option maxHeartbeats 2000000 in
theorem rparts_0 (k : Int) (h8 : k ≠ 8) (h9 : k ≠ 9) (h10 : k ≠ 10) (hx : RdTS w S (.mk k b i f t bs r l d c v) x) : Calls Tryz.prog 84 #[termOf x] w (TermsPost S (partsT (.mk k b i f t bs r l d c v)) w) := by
  obtain ⟨Ab, cb, Al, cl, Ad, cd, rfl, hk, hi, ht, hbl, ⟨hbn, hbs⟩, hr0, hr1, hc, hv, ⟨hll, hl⟩, ⟨hdl, hd⟩⟩ := hx
  have HP : Hid (partsT (.mk k b i f t bs r l d c v) = []) := Lib.hid (by show (if k = 8 then l else if k = 9 ∨ k = 10 then d.map (·.2) else []) = []; rw [if_neg h8, if_neg (by omega)])
  have q8 : (k == 8) = false := by rw [beq_eq_false_iff_ne]; exact h8
  have q9 : (k == 9) = false := by rw [beq_eq_false_iff_ne]; exact h9
  have q10 : (k == 10) = false := by rw [beq_eq_false_iff_ne]; exact h10
  clear hbs hl hd
  unfold termOf
  go_enter Tryz.func84, Tryz.ntmps84
  go_wp2
  go_ret
  rw [HP.out]
  exact ⟨_, 0, rfl, .inl rfl, ((Below.refl _ _).alloc (Nat.le_refl _) _).alloc (by simp) _⟩
set_option maxRecDepth 100000 in
set_option maxHeartbeats 2000000 in
theorem rparts_9 (hx : RdTS w S (.mk 9 b i f t bs r l d c v) x) : Calls Tryz.prog 84 #[termOf x] w (TermsPost S (partsT (.mk 9 b i f t bs r l d c v)) w) := by
  obtain ⟨Ab, cb, Al, cl, Ad, cd, rfl, hk, hi, ht, hbl, ⟨hbn, hbs⟩, hr0, hr1, hc, hv, ⟨hll, hl⟩, ⟨hdl, hd⟩⟩ := hx
  obtain ⟨i0, hi0, hz0, hz1, hz2⟩ := info_parts Tryz.infoTerm
  have HP : Hid (partsT (.mk 9 b i f t bs r l d c v) = d.map (·.2)) := Lib.hid (by simp [partsT])
  have HA : Hid (Below w.heap.size w (w.alloc (.cells #[.int .i64 9, .bool b, .int .i64 i, .float .f64 f, .string t, .slice Ab bs.length cb, .int .u64 r, .slice Al l.length cl, .slice Ad d.length cd, .string c, .int .i64 v] 29))) := Lib.hid ((Below.refl _ _).alloc (Nat.le_refl _) _)
  have hsz : (w.alloc (.cells #[.int .i64 9, .bool b, .int .i64 i, .float .f64 f, .string t, .slice Ab bs.length cb, .int .u64 r, .slice Al l.length cl, .slice Ad d.length cd, .string c, .int .i64 v] 29)).heap.size = w.heap.size + 1 := by simp
  clear hbs hl
  unfold termOf
  go_enter Tryz.func84, Tryz.ntmps84
  go_wp2
  go_loopw [3, 4] (fun y jx wr => ∃ k : Nat, jx = .int .i64 k ∧ k ≤ d.length ∧ Below (w.heap.size + 1) (w.alloc (.cells #[.int .i64 9, .bool b, .int .i64 i, .float .f64 f, .string t, .slice Ab bs.length cb, .int .u64 r, .slice Al l.length cl, .slice Ad d.length cd, .string c, .int .i64 v] 29)) wr ∧ OwnR bearsT 29 S wr (w.heap.size + 1) y ((d.take k).map (·.2))) (fun _ jx _ => d.length - (intOf jx).toNat)
  case atStart =>
    refine ⟨0, rfl, by omega, (Below.refl _ _).alloc (by simp) _, ?_⟩
    have := OwnR.empty (R := bearsT) (e := 29) S (w.alloc (.cells #[.int .i64 9, .bool b, .int .i64 i, .float .f64 f, .string t, .slice Ab bs.length cb, .int .u64 r, .slice Al l.length cl, .slice Ad d.length cd, .string c, .int .i64 v] 29)) (w.heap.size + 1) (by simp)
    simpa using this
  case round =>
    obtain ⟨k, rfl, hk, hb, hO⟩ := hrel
    have hz : w.heap.size + 1 ≤ wr.heap.size := by have := hb.size; rw [hsz] at this; exact this
    have hb0 : Below w.heap.size w wr := HA.out.trans (hb.mono (by omega))
    have c8 : wr.cell? ⟨w.heap.size, 8, none⟩ = some (.slice Ad d.length cd) := (hb.cell (p := ⟨w.heap.size, 8, none⟩) (show w.heap.size < w.heap.size + 1 by omega)).trans (by simp [go_sem])
    have hwl : w.heap.size < wr.heap.size := by omega
    by_cases hlt : k < d.length
    · obtain ⟨bk, off, rfl, hSb, hr⟩ := hd.resolve_left (fun h => by rw [h] at hlt; simp at hlt)
      have hbB := hS _ hSb
      have hbk : bk < wr.heap.size := by omega
      obtain ⟨p, hp⟩ : ∃ p, d[k]? = some p := ⟨_, List.getElem?_eq_getElem hlt⟩
      obtain ⟨_, _, y, hy, hT⟩ := RdTD.iff.1 hr k p hp
      have hy' := hy.keep (fun q hq => hb0.cell (show q.block < _ by rw [hq]; exact hbB))
      have hu2 : RdTS wr S p.2 y := RdTS.keep (fun q hq => hb0.cell (hS _ hq)) _ _ hT
      have HT : Hid ((d.take (k + 1)).map (·.2) = (d.take k).map (·.2) ++ [p.2]) := Lib.hid (by rw [List.take_add_one, hp]; simp)
      have hxl : ((d.take k).map (·.2)).length = k := by simp; omega
      obtain ⟨A1, c1, rfl⟩ := hO.form
      rw [hxl]
      have hu11 := hu2.len11
      obtain ⟨n0, n1, n2, n3, n4, n5, n6, n7, n8, n9, n10, rfl, h1c⟩ := hu2.eleven
      have hba : Below wr.heap.size wr (wr.alloc (.cells #[n0, n1, n2, n3, n4, n5, n6, n7, n8, n9, n10] 29)) := (Below.refl _ _).alloc (Nat.le_refl _) _
      have hO2 := hO.below hba
      obtain ⟨xs, hown, hx⟩ := hO2
      rw [hxl] at hown
      rw [hxl] at hx
      have hfr : RdTS (wr.alloc (.cells #[n0, n1, n2, n3, n4, n5, n6, n7, n8, n9, n10] 29)) (Fresh S (wr.alloc (.cells #[n0, n1, n2, n3, n4, n5, n6, n7, n8, n9, n10] 29)) (.slice A1 k c1)) p.2 [n0, n1, n2, n3, n4, n5, n6, n7, n8, n9, n10] := RdTS.more (fun b hb9 => ⟨hb9, by have := hS b hb9; simp; omega, fun he => by have := hS b hb9; have := (hown.lt b he).1; omega⟩) _ _ (RdTS.keep (fun q hq => hba.cell (show q.block < _ by have := hS _ hq; omega)) _ _ hu2)
      have q0 := hy' 0 _ rfl
      have q1 := hy' 1 _ rfl
      have q2 := hy' 2 _ rfl
      have q3 := hy' 3 _ rfl
      have q4 := hy' 4 _ rfl
      have q5 := hy' 5 _ rfl
      have q6 := hy' 6 _ rfl
      have q7 := hy' 7 _ rfl
      have q8 := hy' 8 _ rfl
      have q9 := hy' 9 _ rfl
      have q10 := hy' 10 _ rfl
      simp only [Nat.add_zero] at q0
      have hz3 : w.heap.size + 1 ≤ (wr.alloc (.cells #[n0, n1, n2, n3, n4, n5, n6, n7, n8, n9, n10] 29)).heap.size := by simp; omega
      have hS2 := hb.trans (hba.mono hz)
      clear hp hy hy' hT hd hr
      go_wp2_with (at_builtin; go_must (refine wpList_append_lies _ rfl (.tmp 26) (.tmp 33) 26 rfl (w.heap.size + 1) 29 i0 _ 11 152 Tryz.underlying26 hi0 hz0 hz1 hz2 rfl (by omega) (.slice A1 k c1) k xs rfl hown ⟨wr.heap.size, 0, none⟩ 1 1 [n0, n1, n2, n3, n4, n5, n6, n7, n8, n9, n10] rfl rfl (news_at rfl) h1c (by omega) (by simp only [maxLen]; omega) (by omega) hz3 _ rfl ?_); intro g cap w2 hown2 hg2 hat hlt2)
      refine ⟨⟨k + 1, rfl, hlt, hS2.grown hg2 hz3 (fun j hj => (hown.lt j hj).1), ?_⟩, ?_⟩
      · rw [HT.out]; exact OwnR.snoc (R := bearsT) hxl hown hx hfr hown2 hg2 hat
      · simp [intOf]; omega
    · obtain rfl : k = d.length := by omega
      rw [List.take_length] at hO
      obtain ⟨A2, c2, rfl, hR⟩ := hO.read
      clear hd
      go_wp2
      go_ret
      rw [HP.out]
      exact ⟨A2, c2, rfl, hR.more (fun b hb9 => hb9.1.elim (fun h => .inl h) (fun h => .inr ⟨by omega, hb9.2⟩)), hb0⟩
set_option maxRecDepth 100000 in
set_option maxHeartbeats 2000000 in
theorem rparts_10 (hx : RdTS w S (.mk 10 b i f t bs r l d c v) x) : Calls Tryz.prog 84 #[termOf x] w (TermsPost S (partsT (.mk 10 b i f t bs r l d c v)) w) := by
  obtain ⟨Ab, cb, Al, cl, Ad, cd, rfl, hk, hi, ht, hbl, ⟨hbn, hbs⟩, hr0, hr1, hc, hv, ⟨hll, hl⟩, ⟨hdl, hd⟩⟩ := hx
  obtain ⟨i0, hi0, hz0, hz1, hz2⟩ := info_parts Tryz.infoTerm
  have HP : Hid (partsT (.mk 10 b i f t bs r l d c v) = d.map (·.2)) := Lib.hid (by simp [partsT])
  have HA : Hid (Below w.heap.size w (w.alloc (.cells #[.int .i64 10, .bool b, .int .i64 i, .float .f64 f, .string t, .slice Ab bs.length cb, .int .u64 r, .slice Al l.length cl, .slice Ad d.length cd, .string c, .int .i64 v] 29))) := Lib.hid ((Below.refl _ _).alloc (Nat.le_refl _) _)
  have hsz : (w.alloc (.cells #[.int .i64 10, .bool b, .int .i64 i, .float .f64 f, .string t, .slice Ab bs.length cb, .int .u64 r, .slice Al l.length cl, .slice Ad d.length cd, .string c, .int .i64 v] 29)).heap.size = w.heap.size + 1 := by simp
  clear hbs hl
  unfold termOf
  go_enter Tryz.func84, Tryz.ntmps84
  go_wp2
  go_loopw [3, 4] (fun y jx wr => ∃ k : Nat, jx = .int .i64 k ∧ k ≤ d.length ∧ Below (w.heap.size + 1) (w.alloc (.cells #[.int .i64 10, .bool b, .int .i64 i, .float .f64 f, .string t, .slice Ab bs.length cb, .int .u64 r, .slice Al l.length cl, .slice Ad d.length cd, .string c, .int .i64 v] 29)) wr ∧ OwnR bearsT 29 S wr (w.heap.size + 1) y ((d.take k).map (·.2))) (fun _ jx _ => d.length - (intOf jx).toNat)
  case atStart =>
    refine ⟨0, rfl, by omega, (Below.refl _ _).alloc (by simp) _, ?_⟩
    have := OwnR.empty (R := bearsT) (e := 29) S (w.alloc (.cells #[.int .i64 10, .bool b, .int .i64 i, .float .f64 f, .string t, .slice Ab bs.length cb, .int .u64 r, .slice Al l.length cl, .slice Ad d.length cd, .string c, .int .i64 v] 29)) (w.heap.size + 1) (by simp)
    simpa using this
  case round =>
    obtain ⟨k, rfl, hk, hb, hO⟩ := hrel
    have hz : w.heap.size + 1 ≤ wr.heap.size := by have := hb.size; rw [hsz] at this; exact this
    have hb0 : Below w.heap.size w wr := HA.out.trans (hb.mono (by omega))
    have c8 : wr.cell? ⟨w.heap.size, 8, none⟩ = some (.slice Ad d.length cd) := (hb.cell (p := ⟨w.heap.size, 8, none⟩) (show w.heap.size < w.heap.size + 1 by omega)).trans (by simp [go_sem])
    have hwl : w.heap.size < wr.heap.size := by omega
    by_cases hlt : k < d.length
    · obtain ⟨bk, off, rfl, hSb, hr⟩ := hd.resolve_left (fun h => by rw [h] at hlt; simp at hlt)
      have hbB := hS _ hSb
      have hbk : bk < wr.heap.size := by omega
      obtain ⟨p, hp⟩ : ∃ p, d[k]? = some p := ⟨_, List.getElem?_eq_getElem hlt⟩
      obtain ⟨_, _, y, hy, hT⟩ := RdTD.iff.1 hr k p hp
      have hy' := hy.keep (fun q hq => hb0.cell (show q.block < _ by rw [hq]; exact hbB))
      have hu2 : RdTS wr S p.2 y := RdTS.keep (fun q hq => hb0.cell (hS _ hq)) _ _ hT
      have HT : Hid ((d.take (k + 1)).map (·.2) = (d.take k).map (·.2) ++ [p.2]) := Lib.hid (by rw [List.take_add_one, hp]; simp)
      have hxl : ((d.take k).map (·.2)).length = k := by simp; omega
      obtain ⟨A1, c1, rfl⟩ := hO.form
      rw [hxl]
      have hu11 := hu2.len11
      obtain ⟨n0, n1, n2, n3, n4, n5, n6, n7, n8, n9, n10, rfl, h1c⟩ := hu2.eleven
      have hba : Below wr.heap.size wr (wr.alloc (.cells #[n0, n1, n2, n3, n4, n5, n6, n7, n8, n9, n10] 29)) := (Below.refl _ _).alloc (Nat.le_refl _) _
      have hO2 := hO.below hba
      obtain ⟨xs, hown, hx⟩ := hO2
      rw [hxl] at hown
      rw [hxl] at hx
      have hfr : RdTS (wr.alloc (.cells #[n0, n1, n2, n3, n4, n5, n6, n7, n8, n9, n10] 29)) (Fresh S (wr.alloc (.cells #[n0, n1, n2, n3, n4, n5, n6, n7, n8, n9, n10] 29)) (.slice A1 k c1)) p.2 [n0, n1, n2, n3, n4, n5, n6, n7, n8, n9, n10] := RdTS.more (fun b hb9 => ⟨hb9, by have := hS b hb9; simp; omega, fun he => by have := hS b hb9; have := (hown.lt b he).1; omega⟩) _ _ (RdTS.keep (fun q hq => hba.cell (show q.block < _ by have := hS _ hq; omega)) _ _ hu2)
      have q0 := hy' 0 _ rfl
      have q1 := hy' 1 _ rfl
      have q2 := hy' 2 _ rfl
      have q3 := hy' 3 _ rfl
      have q4 := hy' 4 _ rfl
      have q5 := hy' 5 _ rfl
      have q6 := hy' 6 _ rfl
      have q7 := hy' 7 _ rfl
      have q8 := hy' 8 _ rfl
      have q9 := hy' 9 _ rfl
      have q10 := hy' 10 _ rfl
      simp only [Nat.add_zero] at q0
      have hz3 : w.heap.size + 1 ≤ (wr.alloc (.cells #[n0, n1, n2, n3, n4, n5, n6, n7, n8, n9, n10] 29)).heap.size := by simp; omega
      have hS2 := hb.trans (hba.mono hz)
      clear hp hy hy' hT hd hr
      go_wp2_with (at_builtin; go_must (refine wpList_append_lies _ rfl (.tmp 26) (.tmp 33) 26 rfl (w.heap.size + 1) 29 i0 _ 11 152 Tryz.underlying26 hi0 hz0 hz1 hz2 rfl (by omega) (.slice A1 k c1) k xs rfl hown ⟨wr.heap.size, 0, none⟩ 1 1 [n0, n1, n2, n3, n4, n5, n6, n7, n8, n9, n10] rfl rfl (news_at rfl) h1c (by omega) (by simp only [maxLen]; omega) (by omega) hz3 _ rfl ?_); intro g cap w2 hown2 hg2 hat hlt2)
      refine ⟨⟨k + 1, rfl, hlt, hS2.grown hg2 hz3 (fun j hj => (hown.lt j hj).1), ?_⟩, ?_⟩
      · rw [HT.out]; exact OwnR.snoc (R := bearsT) hxl hown hx hfr hown2 hg2 hat
      · simp [intOf]; omega
    · obtain rfl : k = d.length := by omega
      rw [List.take_length] at hO
      obtain ⟨A2, c2, rfl, hR⟩ := hO.read
      clear hd
      go_wp2
      go_ret
      rw [HP.out]
      exact ⟨A2, c2, rfl, hR.more (fun b hb9 => hb9.1.elim (fun h => .inl h) (fun h => .inr ⟨by omega, hb9.2⟩)), hb0⟩
end
theorem rparts_any (T : Tm) (x : List Value) (w : World) (S : Nat → Prop) (hS : ∀ b, S b → b < w.heap.size) (hx : RdTS w S T x) : Calls Tryz.prog 84 #[termOf x] w (TermsPost S (partsT T) w) := by
  obtain ⟨k, b, i, f, t, bs, r, l, d, c, v⟩ := T
  by_cases h8 : k = 8
  · subst h8; exact rparts_8 b i f t bs r l d c v x w S hS hx
  by_cases h9 : k = 9
  · subst h9; exact rparts_9 b i f t bs r l d c v x w S hS hx
  by_cases h10 : k = 10
  · subst h10; exact rparts_10 b i f t bs r l d c v x w S hS hx
  exact rparts_0 b i f t bs r l d c v x w S hS k h8 h9 h10 hx
end Go.Proofs.YtobpkelblpdajaaGreatDoor
