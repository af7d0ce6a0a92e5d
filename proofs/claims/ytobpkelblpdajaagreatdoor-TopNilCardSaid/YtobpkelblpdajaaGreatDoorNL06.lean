/- A region that draws its order, whose own operations only read and whose callees may make memory: one walk, in a class of worlds. -/
import Derived.Deep.Quiet
import Derived.Deep.QuietTactic
import Derived.BigQuiet
import Derived.Below
import Derived.KernelRfl
import Derived.RowKit
import Derived.StillTail
set_option linter.unusedVariables false
set_option linter.unusedSimpArgs false
set_option linter.unusedSectionVars false
namespace Go.Proofs.YtobpkelblpdajaaGreatDoor
open Go Go.RowKit
theorem wp_region_class_lit {P : Program} (C : World → Prop) {id : Nat} {Q : Exit → Act → World → Prop} {a : Act} {w : World} {l : List Oper} (hm : P.follows .mixedOrders = true) (hB : Region.lexB .any l.toArray = true) (hC : C { w with drawn := w.drawn + 1 })
    (h : wpQuiet P l.toArray C (fun a' => ∀ w', C w' → Q .normal a' w') l a) : (Code.region id l.toArray true).wp P Q a w :=
  wp_region_quiet (C := C) hm hB hC (by simpa using h)
/- The walk, behind a structure: the elaborator does not unfold it. -/
structure WpC (P : Program) (ops : Array Oper) (C : World → Prop) (Q : Act → Prop) (l : List Oper) (a : Act) : Prop where
  out : wpQuiet P ops C Q l a
theorem WpC.step {P : Program} {ops : Array Oper} {C : World → Prop} {Q : Act → Prop} {o : Oper} {rest : List Oper} {a : Act}
    (h : ∀ K : Act → Prop, (∀ a, WpC P ops C Q rest a → K a) → if Region.wanted o (yielded ops a.tmps) then o.quiet P a C K else K (a.put o.dst undef)) : WpC P ops C Q (o :: rest) a :=
  ⟨wpQuiet_step fun K hK => h K fun a ha => hK a ha.out⟩
theorem WpC.nil {P : Program} {ops : Array Oper} {C : World → Prop} {Q : Act → Prop} {a : Act} (h : Q a) : WpC P ops C Q [] a := ⟨wpQuiet_nil h⟩
theorem bcellB {B : Nat} {W w1 : World} (hb : Below B W w1) : (∀ b o, b < B → w1.cell? ⟨b, o, none⟩ = W.cell? ⟨b, o, none⟩) ∧ (∀ b o, b < B → w1.frozen? ⟨b, o, none⟩ = W.frozen? ⟨b, o, none⟩) :=
  ⟨fun b o h => hb.cell (p := ⟨b, o, none⟩) h, fun b o h => hb.frozen (p := ⟨b, o, none⟩) h⟩
theorem below_then {B : Nat} {w W w1 : World} (hW : Below B w W) (hB : B ≤ w.heap.size) (h : Below W.heap.size W w1) : Below B w w1 := hW.trans (h.mono (Nat.le_trans hB hW.size))
/- One operation of the walk: loads by the first tactic (the world is W, its class hW), calls by the second. -/
theorem wp_region_below_lit {P : Program} {id : Nat} {Q : Exit → Act → World → Prop} {a : Act} {w : World} {l : List Oper} (hm : P.follows .mixedOrders = true) (hB : Region.lexB .any l.toArray = true)
    (h : WpC P l.toArray (fun W => Below w.heap.size w W) (fun a' => ∀ w', Below w.heap.size w w' → Q .normal a' w') l a) : (Code.region id l.toArray true).wp P Q a w :=
  wp_region_class_lit (fun W => Below w.heap.size w W) hm hB ⟨rfl, rfl, rfl, Nat.le_refl _, fun _ _ => rfl⟩ h.out
/- A head that only reads (its callees may make memory), in any order; behind it a tail, one after the other. -/
section
variable {P : Program} {ops : Array Oper} {md : Region.Mode} {C : World → Prop}
def headC (P : Program) (md : Region.Mode) (ops : Array Oper) (C : World → Prop) (n : Nat) (L : Array Bool → Act → Prop) : Nat → Array Bool → Act → Prop
  | 0, listed, a => L listed a
  | f + 1, listed, a => Region.ready md ops listed ≠ [] ∧ ∀ i ∈ Region.ready md ops listed, i < n ∧ qOp P ops C i (headC P md ops C n L f (listed.setIfInBounds i true)) a
theorem headC_any {n g : Nat} {L : Array Bool → Act → Prop} {Q : Exit → Act → World → Prop} (hL : ∀ listed a w, C w → L listed a → wpAny P md ops Q g listed a w) :
    ∀ (f : Nat) (listed : Array Bool) (a : Act) (w : World), C w → headC P md ops C n L f listed a → wpAny P md ops Q (f + g) listed a w
  | 0, _, _, _, hw, h => by rw [Nat.zero_add]; exact hL _ _ _ hw h
  | f + 1, listed, a, w, hw, h => by
    rw [show f + 1 + g = (f + g) + 1 by omega]
    exact ⟨fun h0 => absurd h0 h.1, fun i hi => wpOp_of_qOp hw (fun a' w' hw' h' => headC_any hL f _ a' w' hw' h') (h.2 i hi).2⟩
def sinkX (md : Region.Mode) (ops : Array Oper) (n : Nat) (ds : List Nat) : Bool :=
  (List.range n).all fun i => ds.contains i || (List.range (n + 1)).any fun j => decide (i < j) && Region.waitsFor md ops j i
theorem tail_waitsX {n : Nat} {ds : List Nat} {listed : Array Bool} (hs : sinkX md ops n ds = true) (hc : Region.chainB md ops n = true) (hn : n < ops.size) (inv : HeadInv md ops n listed) (hds : ∀ d ∈ ds, listed.getD d false = true) :
    ∀ (d i : Nat), n - i = d → i < n → listed.getD i true = false → ∀ t, n ≤ t → t ∉ Region.ready md ops listed := by
  intro d
  induction d using Nat.strongRecOn with
  | _ d ih =>
    intro i hd hi hun t ht hr
    obtain ⟨_, ot, hot, hall⟩ := mem_ready.1 hr
    have htl : t < ops.size := (Array.getElem?_eq_some_iff.1 hot).1
    by_cases htn : t = n
    · subst htn
      have h1 := List.all_eq_true.1 hs i (List.mem_range.2 hi)
      simp only [Bool.or_eq_true] at h1
      rcases h1 with h1 | h1
      · have := hds i (by simpa using h1)
        rw [getD_both hun] at this; cases this
      obtain ⟨j, hj, hj2⟩ := List.any_eq_true.1 h1
      simp only [Bool.and_eq_true, decide_eq_true_eq] at hj2
      obtain ⟨oj, hoj, x, hx, hb, hon⟩ := Region.waitsFor_spec hj2.2
      have hjl : j < t + 1 := List.mem_range.1 hj
      by_cases hjt : j = t
      · subst hjt
        obtain rfl : oj = ot := Option.some.inj (hoj.symm.trans hot)
        have h2 := hall x hx hb
        rw [hon, getD_both hun] at h2; cases h2
      · cases hl : listed.getD j false with
        | true =>
          have h2 := inv.closed j oj hoj hl x hx hb
          rw [hon, getD_both hun] at h2; cases h2
        | false => exact ih (t - j) (by omega) j rfl (by omega) (getD_in (by rw [inv.size]; omega) hl) t (Nat.le_refl _) hr
    · have h1 := List.all_eq_true.1 hc t (List.mem_range.2 htl)
      simp only [Bool.or_eq_true, decide_eq_true_eq] at h1
      rcases h1 with h1 | h1
      · omega
      · obtain ⟨o', ho', x, hx, hb, hon⟩ := Region.waitsFor_spec h1
        obtain rfl : o' = ot := Option.some.inj (ho'.symm.trans hot)
        have h2 := hall x hx hb
        rw [hon, getD_both (inv.tail (t - 1) (by omega) (by omega))] at h2; cases h2
theorem headC_first {n i : Nat} {ds : List Nat} {oi : Oper} {v : Value} {L : Array Bool → Act → Prop} (hi : ops[i]? = some oi) (hsel : ∀ (j : Nat) (o : Oper) cs b, ops[j]? = some o → o.op ≠ .select cs b)
    (hs : sinkX md ops n ds = true) (hc : Region.chainB md ops n = true) (hn : n < ops.size) (hin : i < n) (hdone : ∀ listed a, L listed a → ∀ j ∈ Region.ready md ops listed, n ≤ j) (f : Nat) :
    ∀ (listed : Array Bool) (a : Act), HeadInv md ops n listed → (∀ d ∈ ds, listed.getD d false = true) →
      (∀ j oj, ops[j]? = some oj → j ≠ i → listed.getD j true = false → (∀ e ∈ oj.after, Region.binds md e = true → e.on ≠ i) → oi.apart ops oj = true) →
      i ∈ Region.ready md ops listed → YieldsIn P ops C oi v a → headC P md ops C n L f (listed.setIfInBounds i true) (a.put oi.dst v) → headC P md ops C n L (f + 1) listed a := by
  have low : ∀ (listed : Array Bool), HeadInv md ops n listed → (∀ d ∈ ds, listed.getD d false = true) → i ∈ Region.ready md ops listed → ∀ j ∈ Region.ready md ops listed, j < n := fun listed inv hds hr j hj =>
    Nat.lt_of_not_le fun h => tail_waitsX hs hc hn inv hds _ i rfl hin (mem_ready.1 hr).1 j h hj
  induction f with
  | zero =>
    intro listed a inv hds _ hr hy H
    refine ⟨List.ne_nil_of_mem hr, fun j hj => ⟨low listed inv hds hr j hj, ?_⟩⟩
    by_cases e : j = i
    · subst e; exact hy.qOp hi H
    · have := hdone _ _ H j (ready_mono hj e); have := low listed inv hds hr j hj; omega
  | succ f ih =>
    intro listed a inv hds hfree hr hy H
    refine ⟨List.ne_nil_of_mem hr, fun j hj => ⟨low listed inv hds hr j hj, ?_⟩⟩
    by_cases e : j = i
    · subst e; exact hy.qOp hi H
    · obtain ⟨hjun, oj, hoj, hall⟩ := mem_ready.1 hj
      have hnot : ∀ x ∈ oj.after, Region.binds md x = true → x.on ≠ i := fun x hx hb he => by
        have h1 := hall x hx hb
        rw [he, getD_both (mem_ready.1 hr).1] at h1
        cases h1
      refine qOp_mono (fun a' h3 => ?_) (qOp_put hoj (hfree j oj hoj e hjun hnot) (fun cs b => hsel i oi cs b hi) (fun cs b => hsel j oj cs b hoj) hy (H.2 j (ready_mono hj e)).2)
      refine ih _ a' (inv.set hj (low listed inv hds hr j hj)) (fun d hd => getD_set_true (hds d hd)) (fun k ok hk hki hun hno => hfree k ok hk hki ?_ hno) (ready_mono hr (Ne.symm e)) h3.1 (by rw [Array.setIfInBounds_comm _ _ e]; exact h3.2)
      by_cases q : j = k
      · subst q; exact hjun
      · rw [getD_set_ne true q] at hun; exact hun
theorem headC_lex {n g : Nat} {ds : List Nat} {L : Act → Prop} (hsel : Region.noSelect ops = true) (hs : sinkX md ops n ds = true) (hc : Region.chainB md ops n = true) (hn : n < ops.size) :
    ∀ (l : List Oper) (k : Nat) (listed : Array Bool) (a : Act), (∀ j, j < l.length → l[j]? = ops[k + j]?) → k + l.length = n → HeadInv md ops n listed → (∀ d ∈ ds, listed.getD d false = true) →
    Region.lexHead md ops g l.length k listed = true → wpQuiet P ops C L l a → headC P md ops C n (fun ls a' => Region.seqB md ops g n ls = true ∧ L a') l.length listed a
  | [], k, listed, a, _, hk, _, _, hB, h => by
    obtain rfl : k = n := by simpa using hk
    exact ⟨by simpa [Region.lexHead] using hB, h⟩
  | o :: l, k, listed, a, hl, hk, inv, hds, hB, h => by
    have h0 : ops[k]? = some o := by simpa using (hl 0 (by simp)).symm
    simp only [List.length_cons, Region.lexHead, Bool.and_eq_true] at hB
    obtain ⟨⟨hr, hf⟩, hB⟩ := hB
    simp only [List.length_cons] at hk
    have hr : k ∈ Region.ready md ops listed := by simpa using hr
    obtain ⟨v, hy, hK⟩ := yieldsIn_of_qOp h0 (show qOp P ops C k (wpQuiet P ops C L l) a by unfold qOp; simp only [h0]; exact h)
    exact headC_first h0 (Region.noSelect_spec hsel) hs hc hn (by omega) (fun _ _ h => seqB_ready h.1) l.length listed a inv hds (Region.free_spec h0 hf) hr hy
      (headC_lex hsel hs hc hn l (k + 1) _ _ (fun j hj => by have := hl (j + 1) (by simp; omega); simpa [Nat.add_assoc, Nat.add_comm 1 j] using this) (by omega) (inv.set hr (by omega)) (fun d hd => getD_set_true (hds d hd)) hB hK)
theorem class_tail_from {Q : Exit → Act → World → Prop} {a : Act} {w : World} {l : List Oper} (m n : Nat) (ds : List Nat) (listed : Array Bool) (hsel : Region.noSelect l.toArray = true) (hn : n < l.toArray.size) (hmn : m ≤ n) (hs : sinkX md l.toArray n ds = true) (hc : Region.chainB md l.toArray n = true)
    (inv : HeadInv md l.toArray n listed) (hds : ∀ d ∈ ds, listed.getD d false = true) (hlex : Region.lexHead md l.toArray (l.toArray.size - n) (n - m) m listed = true) (hC : C w)
    (h : WpC P l.toArray C (fun a' => ∀ w', C w' → wpList P l.toArray Q (l.drop n) a' w') ((l.take n).drop m) a) : wpAny P md l.toArray Q (l.toArray.size - m) listed a w := by
  have hn' : n < l.length := by simpa using hn
  have htl : ((l.take n).drop m).length = n - m := by simp; omega
  have hdl : (l.drop n).length = l.toArray.size - n := by simp
  have H := headC_lex (md := md) (g := l.toArray.size - n) hsel hs hc hn ((l.take n).drop m) m listed a (fun j hj => by
    have : m + j < n := by rw [htl] at hj; omega
    simp [List.getElem?_drop, this]) (by rw [htl]; omega) inv hds (by rw [htl]; exact hlex) h.out
  have R := headC_any (Q := Q) (g := l.toArray.size - n) (fun ls a' w' hw' hL => by
    have := wpAny_of_seq (md := md) (Q' := Q) (l.drop n) n ls a' w' (fun j => by simp [List.getElem?_drop]) (by rw [hdl]; exact hL.1) (hL.2 w' hw')
    rwa [hdl] at this) _ _ _ _ hC H
  rw [htl, show n - m + (l.toArray.size - n) = l.toArray.size - m by omega] at R
  exact R
def tailB (ops : Array Oper) (n : Nat) : Bool := Region.noSelect ops && decide (n < ops.size) && sinkX .any ops n [] && Region.chainB .any ops n && Region.lexHead .any ops (ops.size - n) n 0 (Array.replicate ops.size false)
def tailB0 (ops : Array Oper) (n : Nat) : Bool := Region.noSelect ops && decide (n < ops.size) && decide (1 ≤ n) && sinkX .any ops n [0] && Region.chainB .any ops n && (Region.ready .any ops (Array.replicate ops.size false)).contains 0 && Region.free .any ops (Array.replicate ops.size false) 0 && Region.lexHead .any ops (ops.size - n) (n - 1) 1 ((Array.replicate ops.size false).setIfInBounds 0 true)
theorem inv0 (ops : Array Oper) (n : Nat) : HeadInv md ops n (Array.replicate ops.size false) :=
  ⟨by simp, fun j oj _ hl => (by rw [getD_replicate_false] at hl; cases hl), fun t _ ht => getD_in (by simpa using ht) (getD_replicate_false _ _)⟩
theorem wp_region_class_tail {id : Nat} {Q : Exit → Act → World → Prop} {a : Act} {w : World} {l : List Oper} (n : Nat) (hm : P.follows .mixedOrders = true) (hB : tailB l.toArray n = true) (hC : C { w with drawn := w.drawn + 1 })
    (h : WpC P l.toArray C (fun a' => ∀ w', C w' → wpList P l.toArray Q (l.drop n) a' w') (l.take n) a) : (Code.region id l.toArray true).wp P Q a w := by
  simp only [tailB, Bool.and_eq_true, decide_eq_true_eq] at hB
  obtain ⟨⟨⟨⟨hsel, hn⟩, hs⟩, hc⟩, hlex⟩ := hB
  refine wp_region_any hm ?_
  have := class_tail_from (P := P) (C := C) (md := .any) (Q := Q) 0 n [] (Array.replicate l.toArray.size false) hsel hn (Nat.zero_le _) hs hc (inv0 _ _) (by simp) (by simpa using hlex) hC (by simpa using h)
  simpa using this
/- The first operation makes nothing and reads no memory, but the tail alone waits for it. -/
theorem wp_region_class_tail0 {id : Nat} {Q : Exit → Act → World → Prop} {a : Act} {w : World} {o : Oper} {r : List Oper} {v : Value} (n : Nat) (hm : P.follows .mixedOrders = true) (hB : tailB0 (o :: r).toArray n = true) (hC : C { w with drawn := w.drawn + 1 })
    (hQ : ∀ c a w, Q (.panic c) (a.put o.dst v) w → Q (.panic c) a w) (hy : Yields P (o :: r).toArray o v a)
    (h : WpC P (o :: r).toArray C (fun a' => ∀ w', C w' → wpList P (o :: r).toArray Q ((o :: r).drop n) a' w') (((o :: r).take n).drop 1) (a.put o.dst v)) : (Code.region id (o :: r).toArray true).wp P Q a w := by
  simp only [tailB0, Bool.and_eq_true, decide_eq_true_eq] at hB
  obtain ⟨⟨⟨⟨⟨⟨⟨hsel, hn⟩, h1⟩, hs⟩, hc⟩, hr⟩, hf⟩, hlex⟩ := hB
  refine wp_region_any hm ?_
  have hr' : 0 ∈ Region.ready .any (o :: r).toArray (Array.replicate (o :: r).toArray.size false) := by simpa using hr
  have H := class_tail_from (P := P) (C := C) (md := .any) (Q := Q) 1 n [0] ((Array.replicate (o :: r).toArray.size false).setIfInBounds 0 true) hsel hn h1 hs hc ((inv0 _ _).set hr' (by omega)) (by intro d hd; simp at hd; subst hd; simp) hlex hC h
  have := wpAny_take (P := P) (md := .any) (Q := Q) (i := 0) (oi := o) (v := v) (fuel := (o :: r).toArray.size - 1) (by simp) hsel hf hr hQ hy H
  simpa using this
end
theorem wp_region_below_tail {P : Program} {id : Nat} {Q : Exit → Act → World → Prop} {a : Act} {w : World} {l : List Oper} (n : Nat) (hm : P.follows .mixedOrders = true) (hB : tailB l.toArray n = true)
    (h : WpC P l.toArray (fun W => Below w.heap.size w W) (fun a' => ∀ w', Below w.heap.size w w' → wpList P l.toArray Q (l.drop n) a' w') (l.take n) a) : (Code.region id l.toArray true).wp P Q a w :=
  wp_region_class_tail n hm hB ⟨rfl, rfl, rfl, Nat.le_refl _, fun _ _ => rfl⟩ h
theorem wp_region_below_tail0 {P : Program} {id : Nat} {Q : Exit → Act → World → Prop} {a : Act} {w : World} {o : Oper} {r : List Oper} {v : Value} (n : Nat) (hm : P.follows .mixedOrders = true) (hB : tailB0 (o :: r).toArray n = true)
    (hQ : ∀ c a w, Q (.panic c) (a.put o.dst v) w → Q (.panic c) a w) (hy : Yields P (o :: r).toArray o v a)
    (h : WpC P (o :: r).toArray (fun W => Below w.heap.size w W) (fun a' => ∀ w', Below w.heap.size w w' → wpList P (o :: r).toArray Q ((o :: r).drop n) a' w') (((o :: r).take n).drop 1) (a.put o.dst v)) : (Code.region id (o :: r).toArray true).wp P Q a w :=
  wp_region_class_tail0 n hm hB ⟨rfl, rfl, rfl, Nat.le_refl _, fun _ _ => rfl⟩ hQ hy h
end Go.Proofs.YtobpkelblpdajaaGreatDoor
