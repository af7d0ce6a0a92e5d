/- A region that draws its order: loads that no other operation of it can touch are taken first; behind them the rest, one after the other, S shown behind each. -/
import Derived.Test.YtobpkelblpdajaaGreatDoorNL06
import Derived.OrdersHeld
import Derived.Deep.AppendLies
set_option linter.unusedVariables false
set_option linter.unusedSimpArgs false
set_option linter.unusedSectionVars false
namespace Go.Proofs.YtobpkelblpdajaaGreatDoor
open Go Go.RowKit
section
variable {P : Program} {ops : Array Oper} {md : Region.Mode} {S : World → Prop} {Q : Exit → Act → World → Prop}
def hdS (P : Program) (ops : Array Oper) (S : World → Prop) (L : Act → Prop) : List Oper → Act → Prop
  | [], a => L a
  | o :: r, a => ∃ v, YieldsIf P ops S o v a ∧ hdS P ops S L r (a.put o.dst v)
structure HdS (P : Program) (ops : Array Oper) (S : World → Prop) (L : Act → Prop) (l : List Oper) (a : Act) : Prop where
  out : hdS P ops S L l a
theorem HdS.nil {L : Act → Prop} {a : Act} (h : L a) : HdS P ops S L [] a := ⟨h⟩
theorem HdS.step {L : Act → Prop} {o : Oper} {r : List Oper} {a : Act}
    (h : ∀ K : Act → Prop, (∀ a, HdS P ops S L r a → K a) → if Region.wanted o (yielded ops a.tmps) then ∃ v, (∀ w, S w → (execOp a.eval o).run P w = .ok (.value v) w) ∧ K (a.put o.dst v) else K (a.put o.dst undef)) : HdS P ops S L (o :: r) a := by
  have := h (hdS P ops S L r) (fun a h => h.out)
  refine ⟨?_⟩
  unfold hdS
  by_cases hw : Region.wanted o (yielded ops a.tmps) = true
  · rw [if_pos hw] at this
    obtain ⟨v, h1, h2⟩ := this
    exact ⟨v, .inl ⟨hw, h1⟩, h2⟩
  · rw [if_neg hw] at this
    exact ⟨undef, .inr ⟨by simpa using hw, rfl⟩, this⟩
def seqS (P : Program) (ops : Array Oper) (S : World → Prop) (Q : Exit → Act → World → Prop) : List Oper → Act → World → Prop
  | [], a, w => Q .normal a w
  | o :: r, a, w => if Region.wanted o (yielded ops a.tmps) then o.wp P a w (fun a' w' => S w' ∧ seqS P ops S Q r a' w') Q else S w ∧ seqS P ops S Q r (a.put o.dst undef) w
structure SeqS (P : Program) (ops : Array Oper) (S : World → Prop) (Q : Exit → Act → World → Prop) (l : List Oper) (a : Act) (w : World) : Prop where
  out : seqS P ops S Q l a w
theorem SeqS.nil {a : Act} {w : World} (h : Q .normal a w) : SeqS P ops S Q [] a w := ⟨h⟩
theorem SeqS.step {o : Oper} {r : List Oper} {a : Act} {w : World}
    (h : ∀ K : Act → World → Prop, (∀ a w, S w → SeqS P ops S Q r a w → K a w) → if Region.wanted o (yielded ops a.tmps) then o.wp P a w K Q else K (a.put o.dst undef) w) : SeqS P ops S Q (o :: r) a w := by
  have := h (fun a w => S w ∧ seqS P ops S Q r a w) (fun a w h1 h2 => ⟨h1, h2.out⟩)
  refine ⟨?_⟩
  unfold seqS
  exact this
theorem SeqS.plain {o : Oper} {r : List Oper} {a : Act} {w : World} (hg : o.guard = none)
    (h : ∀ K : Act → World → Prop, (∀ a w, S w → SeqS P ops S Q r a w → K a w) → o.wp P a w K Q) : SeqS P ops S Q (o :: r) a w :=
  SeqS.step fun K hK => by simp only [Region.wanted, hg, if_true]; exact h K hK
theorem seqS_any : ∀ (l : List Oper) (k : Nat) (listed : Array Bool) (a : Act) (w : World), (∀ j, l[j]? = ops[k + j]?) → Region.seqB md ops l.length k listed = true → seqS P ops S Q l a w → wpAnyH P md ops Q S l.length listed a w
  | [], _, _, _, _, _, hB, h => ⟨by simpa [Region.seqB] using hB, h⟩
  | o :: l, k, listed, a, w, hl, hB, h => by
    have h0 : ops[k]? = some o := by simpa using (hl 0).symm
    simp only [List.length_cons, Region.seqB, Bool.and_eq_true, decide_eq_true_eq] at hB
    refine wpAnyH_all hB.1 (by simp) fun i hi => ?_
    obtain rfl : i = k := by simpa using hi
    have R := fun a' w' (h' : seqS P ops S Q l a' w') => seqS_any l (i + 1) (listed.setIfInBounds i true) a' w' (fun j => by have := hl (j + 1); simpa [Nat.add_assoc, Nat.add_comm 1 j] using this) hB.2 h'
    unfold wpOp
    simp only [h0]
    unfold seqS at h
    split
    · rename_i hw
      rw [if_pos hw] at h
      exact .inl (Oper.wp_mono (fun a' w' h' => ⟨h'.1, R _ _ h'.2⟩) h)
    · rename_i hw
      rw [if_neg hw] at h
      exact ⟨h.1, R _ _ h.2⟩
theorem held_lex {g : Nat} {L : Act → Prop} (hsel : Region.noSelect ops = true) (hQ : ∀ c a w d v, Q (.panic c) (a.put d v) w → Q (.panic c) a w) {w : World} (hS : S w) :
    ∀ (l : List Oper) (k : Nat) (listed : Array Bool) (a : Act), (∀ j, j < l.length → l[j]? = ops[k + j]?) → Region.lexHead md ops g l.length k listed = true → hdS P ops S L l a →
    (∀ ls a', Region.seqB md ops g (k + l.length) ls = true → L a' → wpAnyH P md ops Q S g ls a' w) → wpAnyH P md ops Q S (l.length + g) listed a w
  | [], k, listed, a, _, hB, h, hL => by simpa using hL listed a (by simpa [Region.lexHead] using hB) h
  | o :: l, k, listed, a, hl, hB, ⟨v, hy, h⟩, hL => by
    have h0 : ops[k]? = some o := by simpa using (hl 0 (by simp)).symm
    simp only [List.length_cons, Region.lexHead, Bool.and_eq_true] at hB
    obtain ⟨⟨hr, hf⟩, hB⟩ := hB
    rw [show (o :: l).length + g = (l.length + g) + 1 by simp; omega]
    exact wpAnyH_take h0 hsel hf hr (fun c a w => hQ c a w _ _) hy hS
      (held_lex hsel hQ hS l (k + 1) _ _ (fun j hj => by have := hl (j + 1) (by simp; omega); simpa [Nat.add_assoc, Nat.add_comm 1 j] using this) hB h (fun ls a' h1 h2 => hL ls a' (by rw [List.length_cons, show k + (l.length + 1) = k + 1 + l.length by omega]; exact h1) h2))
def heldB (ops : Array Oper) (n : Nat) : Bool := Region.noSelect ops && decide (n ≤ ops.size) && Region.lexHead .any ops (ops.size - n) n 0 (Array.replicate ops.size false)
theorem wp_region_heldS {id : Nat} {a : Act} {w : World} {l : List Oper} (S : World → Prop) (n : Nat) (hm : P.follows .mixedOrders = true) (hB : heldB l.toArray n = true) (hQ1 : ∀ c (a : Act) w (i : Nat) v, Q (.panic c) (a.put (some i) v) w → Q (.panic c) a w) (hS : S w.drew)
    (h : HdS P l.toArray S (fun a' => SeqS P l.toArray S Q (l.drop n) a' w.drew) (l.take n) a) : (Code.region id l.toArray true).wp P Q a w := by
  have hQ : ∀ c (a : Act) w d v, Q (.panic c) (a.put d v) w → Q (.panic c) a w := by
    intro c a w d v h
    cases d with
    | none => exact h
    | some i => exact hQ1 c a w i v h
  simp only [heldB, Bool.and_eq_true, decide_eq_true_eq] at hB
  obtain ⟨⟨hsel, hn⟩, hlex⟩ := hB
  have hn' : n ≤ l.length := by simpa using hn
  have htl : (l.take n).length = n := by simp; omega
  have hdl : (l.drop n).length = l.toArray.size - n := by simp
  refine wp_region_held (S := S) hm ?_
  have := held_lex (md := .any) (g := l.toArray.size - n) hsel hQ (w := w.drew) hS (l.take n) 0 (Array.replicate l.toArray.size false) a (fun j hj => by
    have : j < n := by rw [htl] at hj; exact hj
    simp [this]) (by rw [htl]; exact hlex) h.out (fun ls a' h1 h2 => by
      rw [htl, Nat.zero_add] at h1
      have := seqS_any (md := .any) (l.drop n) n ls a' w.drew (fun j => by simp [List.getElem?_drop]) (by rw [hdl]; exact h1) h2.out
      rwa [hdl] at this)
  rw [htl, show n + (l.toArray.size - n) = l.toArray.size by omega] at this
  exact this
end
/- The loads first; then the tail is at hand: SeqS goals. -/
/- One operation of the tail that the walk runs by itself. -/
end Go.Proofs.YtobpkelblpdajaaGreatDoor
