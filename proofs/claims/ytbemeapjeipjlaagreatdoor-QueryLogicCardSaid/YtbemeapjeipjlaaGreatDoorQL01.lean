/- A region that draws its order, whose own operations only read and whose callees may make memory: one walk, in a class of worlds. -/
import Derived.Deep.Quiet
import Derived.Deep.QuietTactic
import Derived.BigQuiet
import Derived.Below
import Derived.KernelRfl
import Derived.RowKit
import Derived.StillTail
set_option linter.unusedVariables false
set_option linter.unusedSimpArgs false
namespace Go.Proofs.YtbemeapjeipjlaaGreatDoor
open Go Go.RowKit
theorem wp_region_class_lit {P : Program} (C : World → Prop) {id : Nat} {Q : Exit → Act → World → Prop} {a : Act} {w : World} {l : List Oper} (hm : P.follows .mixedOrders = true) (hB : Region.lexB .any l.toArray = true) (hC : C { w with drawn := w.drawn + 1 })
    (h : wpQuiet P l.toArray C (fun a' => ∀ w', C w' → Q .normal a' w') l a) : (Code.region id l.toArray true).wp P Q a w :=
  wp_region_quiet (C := C) hm hB hC (by simpa using h)
/- The walk, behind a structure: the elaborator does not unfold it. -/
structure WpC (P : Program) (ops : Array Oper) (C : World → Prop) (Q : Act → Prop) (l : List Oper) (a : Act) : Prop where
  out : wpQuiet P ops C Q l a
theorem WpC.step {P : Program} {ops : Array Oper} {C : World → Prop} {Q : Act → Prop} {o : Oper} {rest : List Oper} {a : Act}
    (h : ∀ K : Act → Prop, (∀ a, WpC P ops C Q rest a → K a) → if Region.wanted o (yielded ops a.tmps) then o.quiet P a C K else K (a.put o.dst undef)) : WpC P ops C Q (o :: rest) a :=
  ⟨wpQuiet_step fun K hK => h K fun a ha => hK a ha.out⟩
theorem WpC.nil {P : Program} {ops : Array Oper} {C : World → Prop} {Q : Act → Prop} {a : Act} (h : Q a) : WpC P ops C Q [] a := ⟨wpQuiet_nil h⟩
theorem bcellB {B : Nat} {W w1 : World} (hb : Below B W w1) : (∀ b o, b < B → w1.cell? ⟨b, o, none⟩ = W.cell? ⟨b, o, none⟩) ∧ (∀ b o, b < B → w1.frozen? ⟨b, o, none⟩ = W.frozen? ⟨b, o, none⟩) :=
  ⟨fun b o h => hb.cell (p := ⟨b, o, none⟩) h, fun b o h => hb.frozen (p := ⟨b, o, none⟩) h⟩
theorem below_then {B : Nat} {w W w1 : World} (hW : Below B w W) (hB : B ≤ w.heap.size) (h : Below W.heap.size W w1) : Below B w w1 := hW.trans (h.mono (Nat.le_trans hB hW.size))
/- One operation of the walk: loads by the first tactic (the world is W, its class hW), calls by the second. -/
theorem wp_region_below_lit {P : Program} {id : Nat} {Q : Exit → Act → World → Prop} {a : Act} {w : World} {l : List Oper} (hm : P.follows .mixedOrders = true) (hB : Region.lexB .any l.toArray = true)
    (h : WpC P l.toArray (fun W => Below w.heap.size w W) (fun a' => ∀ w', Below w.heap.size w w' → Q .normal a' w') l a) : (Code.region id l.toArray true).wp P Q a w :=
  wp_region_class_lit (fun W => Below w.heap.size w W) hm hB ⟨rfl, rfl, rfl, Nat.le_refl _, fun _ _ => rfl⟩ h.out
/- A head that only reads (its callees may make memory), in any order; behind it a tail, one after the other. -/
section
variable {P : Program} {ops : Array Oper} {md : Region.Mode} {C : World → Prop}
def headC (P : Program) (md : Region.Mode) (ops : Array Oper) (C : World → Prop) (n : Nat) (L : Array Bool → Act → Prop) : Nat → Array Bool → Act → Prop
  | 0, listed, a => L listed a
  | f + 1, listed, a => Region.ready md ops listed ≠ [] ∧ ∀ i ∈ Region.ready md ops listed, i < n ∧ qOp P ops C i (headC P md ops C n L f (listed.setIfInBounds i true)) a
theorem headC_any {n g : Nat} {L : Array Bool → Act → Prop} {Q : Exit → Act → World → Prop} (hL : ∀ listed a w, C w → L listed a → wpAny P md ops Q g listed a w) :
    ∀ (f : Nat) (listed : Array Bool) (a : Act) (w : World), C w → headC P md ops C n L f listed a → wpAny P md ops Q (f + g) listed a w
  | 0, _, _, _, hw, h => by rw [Nat.zero_add]; exact hL _ _ _ hw h
  | f + 1, listed, a, w, hw, h => by
    rw [show f + 1 + g = (f + g) + 1 by omega]
    exact ⟨fun h0 => absurd h0 h.1, fun i hi => wpOp_of_qOp hw (fun a' w' hw' h' => headC_any hL f _ a' w' hw' h') (h.2 i hi).2⟩
def sinkX (md : Region.Mode) (ops : Array Oper) (n : Nat) (ds : List Nat) : Bool :=
  (List.range n).all fun i => ds.contains i || (List.range (n + 1)).any fun j => decide (i < j) && Region.waitsFor md ops j i
theorem tail_waitsX {n : Nat} {ds : List Nat} {listed : Array Bool} (hs : sinkX md ops n ds = true) (hc : Region.chainB md ops n = true) (hn : n < ops.size) (inv : HeadInv md ops n listed) (hds : ∀ d ∈ ds, listed.getD d false = true) :
    ∀ (d i : Nat), n - i = d → i < n → listed.getD i true = false → ∀ t, n ≤ t → t ∉ Region.ready md ops listed := by
  intro d
  induction d using Nat.strongRecOn with
  | _ d ih =>
    intro i hd hi hun t ht hr
    obtain ⟨_, ot, hot, hall⟩ := mem_ready.1 hr
    have htl : t < ops.size := (Array.getElem?_eq_some_iff.1 hot).1
    by_cases htn : t = n
    · subst htn
      have h1 := List.all_eq_true.1 hs i (List.mem_range.2 hi)
      simp only [Bool.or_eq_true] at h1
      rcases h1 with h1 | h1
      · have := hds i (by simpa using h1)
        rw [getD_both hun] at this; cases this
      obtain ⟨j, hj, hj2⟩ := List.any_eq_true.1 h1
      simp only [Bool.and_eq_true, decide_eq_true_eq] at hj2
      obtain ⟨oj, hoj, x, hx, hb, hon⟩ := Region.waitsFor_spec hj2.2
      have hjl : j < t + 1 := List.mem_range.1 hj
      by_cases hjt : j = t
      · subst hjt
        obtain rfl : oj = ot := Option.some.inj (hoj.symm.trans hot)
        have h2 := hall x hx hb
        rw [hon, getD_both hun] at h2; cases h2
      · cases hl : listed.getD j false with
        | true =>
          have h2 := inv.closed j oj hoj hl x hx hb
          rw [hon, getD_both hun] at h2; cases h2
        | false => exact ih (t - j) (by omega) j rfl (by omega) (getD_in (by rw [inv.size]; omega) hl) t (Nat.le_refl _) hr
    · have h1 := List.all_eq_true.1 hc t (List.mem_range.2 htl)
      simp only [Bool.or_eq_true, decide_eq_true_eq] at h1
      rcases h1 with h1 | h1
      · omega
      · obtain ⟨o', ho', x, hx, hb, hon⟩ := Region.waitsFor_spec h1
        obtain rfl : o' = ot := Option.some.inj (ho'.symm.trans hot)
        have h2 := hall x hx hb
        rw [hon, getD_both (inv.tail (t - 1) (by omega) (by omega))] at h2; cases h2
theorem headC_first {n i : Nat} {ds : List Nat} {oi : Oper} {v : Value} {L : Array Bool → Act → Prop} (hi : ops[i]? = some oi) (hsel : ∀ (j : Nat) (o : Oper) cs b, ops[j]? = some o → o.op ≠ .select cs b)
    (hs : sinkX md ops n ds = true) (hc : Region.chainB md ops n = true) (hn : n < ops.size) (hin : i < n) (hdone : ∀ listed a, L listed a → ∀ j ∈ Region.ready md ops listed, n ≤ j) (f : Nat) :
    ∀ (listed : Array Bool) (a : Act), HeadInv md ops n listed → (∀ d ∈ ds, listed.getD d false = true) →
      (∀ j oj, ops[j]? = some oj → j ≠ i → listed.getD j true = false → (∀ e ∈ oj.after, Region.binds md e = true → e.on ≠ i) → oi.apart ops oj = true) →
      i ∈ Region.ready md ops listed → YieldsIn P ops C oi v a → headC P md ops C n L f (listed.setIfInBounds i true) (a.put oi.dst v) → headC P md ops C n L (f + 1) listed a := by
  have low : ∀ (listed : Array Bool), HeadInv md ops n listed → (∀ d ∈ ds, listed.getD d false = true) → i ∈ Region.ready md ops listed → ∀ j ∈ Region.ready md ops listed, j < n := fun listed inv hds hr j hj =>
    Nat.lt_of_not_le fun h => tail_waitsX hs hc hn inv hds _ i rfl hin (mem_ready.1 hr).1 j h hj
  induction f with
  | zero =>
    intro listed a inv hds _ hr hy H
    refine ⟨List.ne_nil_of_mem hr, fun j hj => ⟨low listed inv hds hr j hj, ?_⟩⟩
    by_cases e : j = i
    · subst e; exact hy.qOp hi H
    · have := hdone _ _ H j (ready_mono hj e); have := low listed inv hds hr j hj; omega
  | succ f ih =>
    intro listed a inv hds hfree hr hy H
    refine ⟨List.ne_nil_of_mem hr, fun j hj => ⟨low listed inv hds hr j hj, ?_⟩⟩
    by_cases e : j = i
    · subst e; exact hy.qOp hi H
    · obtain ⟨hjun, oj, hoj, hall⟩ := mem_ready.1 hj
      have hnot : ∀ x ∈ oj.after, Region.binds md x = true → x.on ≠ i := fun x hx hb he => by
        have h1 := hall x hx hb
        rw [he, getD_both (mem_ready.1 hr).1] at h1
        cases h1
      refine qOp_mono (fun a' h3 => ?_) (qOp_put hoj (hfree j oj hoj e hjun hnot) (fun cs b => hsel i oi cs b hi) (fun cs b => hsel j oj cs b hoj) hy (H.2 j (ready_mono hj e)).2)
      refine ih _ a' (inv.set hj (low listed inv hds hr j hj)) (fun d hd => getD_set_true (hds d hd)) (fun k ok hk hki hun hno => hfree k ok hk hki ?_ hno) (ready_mono hr (Ne.symm e)) h3.1 (by rw [Array.setIfInBounds_comm _ _ e]; exact h3.2)
      by_cases q : j = k
      · subst q; exact hjun
      · rw [getD_set_ne true q] at hun; exact hun
theorem headC_lex {n g : Nat} {ds : List Nat} {L : Act → Prop} (hsel : Region.noSelect ops = true) (hs : sinkX md ops n ds = true) (hc : Region.chainB md ops n = true) (hn : n < ops.size) :
    ∀ (l : List Oper) (k : Nat) (listed : Array Bool) (a : Act), (∀ j, j < l.length → l[j]? = ops[k + j]?) → k + l.length = n → HeadInv md ops n listed → (∀ d ∈ ds, listed.getD d false = true) →
    Region.lexHead md ops g l.length k listed = true → wpQuiet P ops C L l a → headC P md ops C n (fun ls a' => Region.seqB md ops g n ls = true ∧ L a') l.length listed a
  | [], k, listed, a, _, hk, _, _, hB, h => by
    obtain rfl : k = n := by simpa using hk
    exact ⟨by simpa [Region.lexHead] using hB, h⟩
  | o :: l, k, listed, a, hl, hk, inv, hds, hB, h => by
    have h0 : ops[k]? = some o := by simpa using (hl 0 (by simp)).symm
    simp only [List.length_cons, Region.lexHead, Bool.and_eq_true] at hB
    obtain ⟨⟨hr, hf⟩, hB⟩ := hB
    simp only [List.length_cons] at hk
    have hr : k ∈ Region.ready md ops listed := by simpa using hr
    obtain ⟨v, hy, hK⟩ := yieldsIn_of_qOp h0 (show qOp P ops C k (wpQuiet P ops C L l) a by unfold qOp; simp only [h0]; exact h)
    exact headC_first h0 (Region.noSelect_spec hsel) hs hc hn (by omega) (fun _ _ h => seqB_ready h.1) l.length listed a inv hds (Region.free_spec h0 hf) hr hy
      (headC_lex hsel hs hc hn l (k + 1) _ _ (fun j hj => by have := hl (j + 1) (by simp; omega); simpa [Nat.add_assoc, Nat.add_comm 1 j] using this) (by omega) (inv.set hr (by omega)) (fun d hd => getD_set_true (hds d hd)) hB hK)
theorem class_tail_from {Q : Exit → Act → World → Prop} {a : Act} {w : World} {l : List Oper} (m n : Nat) (ds : List Nat) (listed : Array Bool) (hsel : Region.noSelect l.toArray = true) (hn : n < l.toArray.size) (hmn : m ≤ n) (hs : sinkX md l.toArray n ds = true) (hc : Region.chainB md l.toArray n = true)
    (inv : HeadInv md l.toArray n listed) (hds : ∀ d ∈ ds, listed.getD d false = true) (hlex : Region.lexHead md l.toArray (l.toArray.size - n) (n - m) m listed = true) (hC : C w)
    (h : WpC P l.toArray C (fun a' => ∀ w', C w' → wpList P l.toArray Q (l.drop n) a' w') ((l.take n).drop m) a) : wpAny P md l.toArray Q (l.toArray.size - m) listed a w := by
  have hn' : n < l.length := by simpa using hn
  have htl : ((l.take n).drop m).length = n - m := by simp; omega
  have hdl : (l.drop n).length = l.toArray.size - n := by simp
  have H := headC_lex (md := md) (g := l.toArray.size - n) hsel hs hc hn ((l.take n).drop m) m listed a (fun j hj => by
    have : m + j < n := by rw [htl] at hj; omega
    simp [List.getElem?_drop, this]) (by rw [htl]; omega) inv hds (by rw [htl]; exact hlex) h.out
  have R := headC_any (Q := Q) (g := l.toArray.size - n) (fun ls a' w' hw' hL => by
    have := wpAny_of_seq (md := md) (Q' := Q) (l.drop n) n ls a' w' (fun j => by simp [List.getElem?_drop]) (by rw [hdl]; exact hL.1) (hL.2 w' hw')
    rwa [hdl] at this) _ _ _ _ hC H
  rw [htl, show n - m + (l.toArray.size - n) = l.toArray.size - m by omega] at R
  exact R
def tailB (ops : Array Oper) (n : Nat) : Bool := Region.noSelect ops && decide (n < ops.size) && sinkX .any ops n [] && Region.chainB .any ops n && Region.lexHead .any ops (ops.size - n) n 0 (Array.replicate ops.size false)
def tailB0 (ops : Array Oper) (n : Nat) : Bool := Region.noSelect ops && decide (n < ops.size) && decide (1 ≤ n) && sinkX .any ops n [0] && Region.chainB .any ops n && (Region.ready .any ops (Array.replicate ops.size false)).contains 0 && Region.free .any ops (Array.replicate ops.size false) 0 && Region.lexHead .any ops (ops.size - n) (n - 1) 1 ((Array.replicate ops.size false).setIfInBounds 0 true)
theorem inv0 (ops : Array Oper) (n : Nat) : HeadInv md ops n (Array.replicate ops.size false) :=
  ⟨by simp, fun j oj _ hl => (by rw [getD_replicate_false] at hl; cases hl), fun t _ ht => getD_in (by simpa using ht) (getD_replicate_false _ _)⟩
theorem wp_region_class_tail {id : Nat} {Q : Exit → Act → World → Prop} {a : Act} {w : World} {l : List Oper} (n : Nat) (hm : P.follows .mixedOrders = true) (hB : tailB l.toArray n = true) (hC : C { w with drawn := w.drawn + 1 })
    (h : WpC P l.toArray C (fun a' => ∀ w', C w' → wpList P l.toArray Q (l.drop n) a' w') (l.take n) a) : (Code.region id l.toArray true).wp P Q a w := by
  simp only [tailB, Bool.and_eq_true, decide_eq_true_eq] at hB
  obtain ⟨⟨⟨⟨hsel, hn⟩, hs⟩, hc⟩, hlex⟩ := hB
  refine wp_region_any hm ?_
  have := class_tail_from (P := P) (C := C) (md := .any) (Q := Q) 0 n [] (Array.replicate l.toArray.size false) hsel hn (Nat.zero_le _) hs hc (inv0 _ _) (by simp) (by simpa using hlex) hC (by simpa using h)
  simpa using this
/- The first operation makes nothing and reads no memory, but the tail alone waits for it. -/
theorem wp_region_class_tail0 {id : Nat} {Q : Exit → Act → World → Prop} {a : Act} {w : World} {o : Oper} {r : List Oper} {v : Value} (n : Nat) (hm : P.follows .mixedOrders = true) (hB : tailB0 (o :: r).toArray n = true) (hC : C { w with drawn := w.drawn + 1 })
    (hQ : ∀ c a w, Q (.panic c) (a.put o.dst v) w → Q (.panic c) a w) (hy : Yields P (o :: r).toArray o v a)
    (h : WpC P (o :: r).toArray C (fun a' => ∀ w', C w' → wpList P (o :: r).toArray Q ((o :: r).drop n) a' w') (((o :: r).take n).drop 1) (a.put o.dst v)) : (Code.region id (o :: r).toArray true).wp P Q a w := by
  simp only [tailB0, Bool.and_eq_true, decide_eq_true_eq] at hB
  obtain ⟨⟨⟨⟨⟨⟨⟨hsel, hn⟩, h1⟩, hs⟩, hc⟩, hr⟩, hf⟩, hlex⟩ := hB
  refine wp_region_any hm ?_
  have hr' : 0 ∈ Region.ready .any (o :: r).toArray (Array.replicate (o :: r).toArray.size false) := by simpa using hr
  have H := class_tail_from (P := P) (C := C) (md := .any) (Q := Q) 1 n [0] ((Array.replicate (o :: r).toArray.size false).setIfInBounds 0 true) hsel hn h1 hs hc ((inv0 _ _).set hr' (by omega)) (by intro d hd; simp at hd; subst hd; simp) hlex hC h
  have := wpAny_take (P := P) (md := .any) (Q := Q) (i := 0) (oi := o) (v := v) (fuel := (o :: r).toArray.size - 1) (by simp) hsel hf hr hQ hy H
  simpa using this
end
theorem wp_region_below_tail {P : Program} {id : Nat} {Q : Exit → Act → World → Prop} {a : Act} {w : World} {l : List Oper} (n : Nat) (hm : P.follows .mixedOrders = true) (hB : tailB l.toArray n = true)
    (h : WpC P l.toArray (fun W => Below w.heap.size w W) (fun a' => ∀ w', Below w.heap.size w w' → wpList P l.toArray Q (l.drop n) a' w') (l.take n) a) : (Code.region id l.toArray true).wp P Q a w :=
  wp_region_class_tail n hm hB ⟨rfl, rfl, rfl, Nat.le_refl _, fun _ _ => rfl⟩ h
theorem wp_region_below_tail0 {P : Program} {id : Nat} {Q : Exit → Act → World → Prop} {a : Act} {w : World} {o : Oper} {r : List Oper} {v : Value} (n : Nat) (hm : P.follows .mixedOrders = true) (hB : tailB0 (o :: r).toArray n = true)
    (hQ : ∀ c a w, Q (.panic c) (a.put o.dst v) w → Q (.panic c) a w) (hy : Yields P (o :: r).toArray o v a)
    (h : WpC P (o :: r).toArray (fun W => Below w.heap.size w W) (fun a' => ∀ w', Below w.heap.size w w' → wpList P (o :: r).toArray Q ((o :: r).drop n) a' w') (((o :: r).take n).drop 1) (a.put o.dst v)) : (Code.region id (o :: r).toArray true).wp P Q a w :=
  wp_region_class_tail0 n hm hB ⟨rfl, rfl, rfl, Nat.le_refl _, fun _ _ => rfl⟩ hQ hy h
end Go.Proofs.YtbemeapjeipjlaaGreatDoor
/- A region that draws its order: each operation makes what lasts, whatever came ahead of it. -/
namespace Go.Proofs.YtbemeapjeipjlaaGreatDoor
open Go Go.RowKit
section
variable {P : Program} {ops : Array Oper} {T : Nat → Value → World → Prop} {C : World → Prop} {Q : Exit → Act → World → Prop} {a0 : Act}
def dstsOf (l : List Oper) : List Nat := l.filterMap (·.dst)
def freeB (ops : Array Oper) (n : Nat) : Bool :=
  (List.range ops.size).all fun i => match ops[i]? with
    | none => true
    | some o => o.guard.isNone && (o.after.toList.all fun e => decide (e.on < i)) && (match o.dst with
      | none => false
      | some d => decide (d < n) && (List.range ops.size).all fun j => decide (j = i) || (match ops[j]? with
        | none => true
        | some p => p.dst != some d))
theorem freeB_at {n i : Nat} {o : Oper} (h : freeB ops n = true) (ho : ops[i]? = some o) : o.guard = none ∧ (∀ e ∈ o.after.toList, e.on < i) ∧ ∃ d, o.dst = some d ∧ d < n ∧ ∀ j p, ops[j]? = some p → p.dst = some d → j = i := by
  have hi : i < ops.size := (Array.getElem?_eq_some_iff.1 ho).1
  have h1 := List.all_eq_true.1 h i (List.mem_range.2 hi)
  simp only [ho, Bool.and_eq_true] at h1
  obtain ⟨⟨h2, h3⟩, h4⟩ := h1
  refine ⟨by simpa using h2, fun e he => of_decide_eq_true (List.all_eq_true.1 h3 e he), ?_⟩
  cases hd : o.dst with
  | none => rw [hd] at h4; cases h4
  | some d =>
    rw [hd] at h4
    simp only [Bool.and_eq_true, decide_eq_true_eq] at h4
    refine ⟨d, rfl, h4.1, fun j p hp hpd => ?_⟩
    have h5 := List.all_eq_true.1 h4.2 j (List.mem_range.2 (Array.getElem?_eq_some_iff.1 hp).1)
    simp only [hp, Bool.or_eq_true, decide_eq_true_eq] at h5
    rcases h5 with h5 | h5
    · exact h5
    · rw [hpd] at h5; simp at h5
structure Free (ops : Array Oper) (T : Nat → Value → World → Prop) (C : World → Prop) (a0 : Act) (listed : Array Bool) (a : Act) (w : World) : Prop where
  c : C w
  size : a.tmps.size = a0.tmps.size
  defers : a.defers = a0.defers
  done : ∀ (j : Nat) o d, ops[j]? = some o → o.dst = some d → listed.getD j false = true → T d (a.tmps.getD d undef) w
  other : ∀ d, (∀ (j : Nat) o, ops[j]? = some o → listed.getD j false = true → o.dst ≠ some d) → a.tmps[d]? = a0.tmps[d]?
/- One operation, whatever came ahead of it. -/
def OpOK (P : Program) (ops : Array Oper) (T : Nat → Value → World → Prop) (C : World → Prop) (Q : Exit → Act → World → Prop) (a0 : Act) (o : Oper) : Prop :=
  ∀ (b : Act) (w : World), C w → (∀ d, d ∉ dstsOf ops.toList → b.tmps.getD d undef = a0.tmps.getD d undef) →
    (∀ e ∈ o.after.toList, Region.binds .any e = true → ∀ oj d, ops[e.on]? = some oj → oj.dst = some d → T d (b.tmps.getD d undef) w) →
    o.wp P b w (fun b' w' => C w' ∧ (∀ d v, T d v w → T d v w') ∧ ∃ v, b' = b.put o.dst v ∧ ∀ d, o.dst = some d → T d v w') Q
def putAll (a : Act) (f : Nat → Value) : List Oper → Act
  | [] => a
  | o :: r => putAll (match o.dst with
    | some d => a.put (some d) (f d)
    | none => a) f r
theorem put_at {a : Act} {d k : Nat} {v : Value} : (a.put (some d) v).tmps[k]? = if k = d ∧ d < a.tmps.size then some v else a.tmps[k]? := by
  simp only [Act.put, Array.getElem?_setIfInBounds]
  by_cases h : d = k
  · subst h
    by_cases h2 : d < a.tmps.size
    · simp [h2]
    · simp [h2]
  · rw [if_neg h, if_neg (fun h' => h h'.1.symm)]
theorem putAll_at (f : Nat → Value) (n : Nat) : ∀ (l : List Oper) (a : Act), a.tmps.size = n → (∀ d ∈ dstsOf l, d < n) → (putAll a f l).tmps.size = n ∧ (putAll a f l).defers = a.defers ∧ ∀ k, (putAll a f l).tmps[k]? = if k ∈ dstsOf l then some (f k) else a.tmps[k]?
  | [], a, hn, _ => ⟨hn, rfl, fun k => by simp [dstsOf, putAll]⟩
  | o :: r, a, hn, hd => by
    cases ho : o.dst with
    | none =>
      have e : dstsOf (o :: r) = dstsOf r := by simp [dstsOf, ho]
      rw [e] at hd ⊢
      rw [putAll, ho]
      exact putAll_at f n r a hn hd
    | some d =>
      have e : dstsOf (o :: r) = d :: dstsOf r := by simp [dstsOf, ho]
      rw [e] at hd ⊢
      rw [putAll, ho]
      obtain ⟨h1, h2, h3⟩ := putAll_at f n r (a.put (some d) (f d)) (by simpa [Act.put] using hn) (fun k hk => hd k (by simp [hk]))
      refine ⟨h1, h2, fun k => ?_⟩
      rw [h3, put_at, hn]
      by_cases hk : k ∈ dstsOf r
      · rw [if_pos hk, if_pos (by simp [hk])]
      · rw [if_neg hk]
        by_cases hkd : k = d
        · subst hkd
          rw [if_pos ⟨rfl, hd k (by simp)⟩, if_pos (by simp)]
        · rw [if_neg (fun h => hkd h.1), if_neg (by simp [hk, hkd])]
theorem countP_less {p q : Nat → Bool} {l : List Nat} {i : Nat} (hi : i ∈ l) (h1 : p i = true) (h2 : q i = false) (h : ∀ k, q k = true → p k = true) : l.countP q < l.countP p := by
  induction l with
  | nil => cases hi
  | cons x r ih =>
    have hle : r.countP q ≤ r.countP p := by
      clear ih hi
      induction r with
      | nil => simp
      | cons y s ih =>
        rw [List.countP_cons, List.countP_cons]
        cases hq : q y with
        | true => rw [h y hq]; simp; exact ih
        | false => cases p y <;> simp <;> omega
    rw [List.countP_cons, List.countP_cons]
    rcases List.mem_cons.1 hi with rfl | hi
    · rw [h1, h2]; simp; omega
    · have := ih hi
      cases hq : q x with
      | true => rw [h x hq]; simp; exact this
      | false => cases p x <;> simp <;> omega
theorem all_listed {n : Nat} {listed : Array Bool} (hB : freeB ops n = true) (hs : listed.size = ops.size) (h : Region.ready .any ops listed = []) : ∀ i, i < ops.size → listed.getD i false = true := by
  intro i
  induction i using Nat.strongRecOn with
  | _ i ih =>
    intro hi
    cases hl : listed.getD i false with
    | true => rfl
    | false =>
      exfalso
      have ho : ops[i]? = some ops[i] := Array.getElem?_eq_getElem hi
      obtain ⟨_, haft, _⟩ := freeB_at hB ho
      have : i ∈ Region.ready .any ops listed := by
        unfold Region.ready
        refine List.mem_filter.2 ⟨List.mem_range.2 hi, ?_⟩
        have hl2 : listed.getD i true = false := by
          have h3 : i < listed.size := by omega
          simp only [Array.getD, h3, dif_pos] at hl ⊢
          exact hl
        rw [hl2, ho]
        simp only [Bool.not_false, Option.map_some, Option.getD_some, Bool.true_and]
        rw [Array.all_eq_true']
        intro e he
        have hlt := haft e (by simpa using he)
        rw [ih e.on hlt (by omega)]
        simp
      rw [h] at this
      cases this
theorem free_any (n : Nat) (hB : freeB ops n = true) (hn : a0.tmps.size = n) (hop : ∀ (i : Nat) o, ops[i]? = some o → OpOK P ops T C Q a0 o)
    (hQ : ∀ (f : Nat → Value) (w' : World), C w' → (∀ d ∈ dstsOf ops.toList, T d (f d) w') → Q .normal (putAll a0 f ops.toList) w') :
    ∀ (fuel : Nat) (listed : Array Bool) (a : Act) (w : World), listed.size = ops.size → (List.range ops.size).countP (fun i => !listed.getD i true) ≤ fuel → Free ops T C a0 listed a w → wpAny P .any ops Q fuel listed a w := by
  have hdst : ∀ d ∈ dstsOf ops.toList, ∃ (j : Nat) (o : Oper), ops[j]? = some o ∧ o.dst = some d := by
    intro d hd
    obtain ⟨o, ho, hod⟩ := List.mem_filterMap.1 hd
    obtain ⟨j, hj⟩ := List.mem_iff_getElem?.1 ho
    exact ⟨j, o, by simpa using hj, hod⟩
  have mem_dst : ∀ (j : Nat) (o : Oper) (d : Nat), ops[j]? = some o → o.dst = some d → d ∈ dstsOf ops.toList := by
    intro j o d ho hod
    exact List.mem_filterMap.2 ⟨o, List.mem_of_getElem? (by simpa using ho : ops.toList[j]? = some o), hod⟩
  have fin : ∀ (listed : Array Bool) (a : Act) (w : World), listed.size = ops.size → Region.ready .any ops listed = [] → Free ops T C a0 listed a w → Q .normal a w := by
    intro listed a w hs hr hF
    have hall := all_listed hB hs hr
    have hd : ∀ d ∈ dstsOf ops.toList, T d (a.tmps.getD d undef) w ∧ d < n := by
      intro d hd
      obtain ⟨j, o, ho, hod⟩ := hdst d hd
      obtain ⟨_, _, d', hd', hlt, _⟩ := freeB_at hB ho
      rw [hod] at hd'; injection hd' with hd'; subst hd'
      exact ⟨hF.done j o d ho hod (hall j (Array.getElem?_eq_some_iff.1 ho).1), hlt⟩
    have hA : a = putAll a0 (fun d => a.tmps.getD d undef) ops.toList := by
      obtain ⟨h1, h2, h3⟩ := putAll_at (fun d => a.tmps.getD d undef) n ops.toList a0 hn (fun d h => (hd d h).2)
      have ht : a.tmps = (putAll a0 (fun d => a.tmps.getD d undef) ops.toList).tmps := by
        apply Array.ext_getElem?
        intro k
        rw [h3 k]
        by_cases hk : k ∈ dstsOf ops.toList
        · rw [if_pos hk]
          have hlt : k < a.tmps.size := by rw [hF.size, hn]; exact (hd k hk).2
          simp [Array.getD, hlt]
        · rw [if_neg hk]
          exact hF.other k fun j o ho _ hod => hk (mem_dst j o k ho hod)
      have hd2 := h2.trans hF.defers.symm
      generalize putAll a0 (fun d => a.tmps.getD d undef) ops.toList = A at *
      cases a; cases A
      simp only at ht hd2
      subst ht; subst hd2; rfl
    have := hQ (fun d => a.tmps.getD d undef) w hF.c (fun d h => (hd d h).1)
    rwa [← hA] at this
  intro fuel
  induction fuel with
  | zero =>
    intro listed a w hs hc hF
    have hr : Region.ready .any ops listed = [] := by
      unfold Region.ready
      rw [List.filter_eq_nil_iff]
      intro i hi
      have : (List.range ops.size).countP (fun i => !listed.getD i true) = 0 := by omega
      have := List.countP_eq_zero.1 this i hi
      simp only [Bool.not_eq_true, Bool.not_eq_false'] at this
      simp at this
      simp [this]
    exact ⟨hr, fin listed a w hs hr hF⟩
  | succ fuel ih =>
    intro listed a w hs hc hF
    refine ⟨fun hr => fin listed a w hs hr hF, fun i hi => ?_⟩
    obtain ⟨hi1, hi2⟩ := List.mem_filter.1 hi
    have hlt := List.mem_range.1 hi1
    have ho : ops[i]? = some ops[i] := Array.getElem?_eq_getElem hlt
    obtain ⟨hg, haft, d, hod, hdn, huni⟩ := freeB_at hB ho
    simp only [ho, Bool.and_eq_true, Option.map_some, Option.getD_some] at hi2
    obtain ⟨hun, hdeps⟩ := hi2
    have hun' : listed.getD i true = false := by simpa using hun
    have hil : i < listed.size := by omega
    have hunf : listed.getD i false = false := by
      simp only [Array.getD, hil, dif_pos] at hun' ⊢
      exact hun'
    rw [Array.all_eq_true'] at hdeps
    unfold wpOp
    simp only [ho]
    rw [if_pos (by simp [Region.wanted, hg])]
    refine .inl ((Oper.wp_mono (fun b' w' h => ?_)) (hop i _ ho a w hF.c (fun k hk => ?_) (fun e he hb oj k hoj hk => ?_)))
    · obtain ⟨hC, hmono, v, rfl, hv⟩ := h
      refine ih _ _ _ (by simpa using hs) ?_ ⟨hC, ?_, ?_, ?_, ?_⟩
      · have := countP_less (p := fun k => !listed.getD k true) (q := fun k => !(listed.setIfInBounds i true).getD k true) (l := List.range ops.size) (i := i) hi1 (by simpa using hun') (by simp [Array.getD, hil]) (fun k hk => by
          by_cases e : i = k
          · subst e; simp [Array.getD, hil] at hk
          · simp only [Array.getD, Array.size_setIfInBounds] at hk ⊢
            split at hk
            · rename_i h2; rw [dif_pos h2]; rw [Array.getInternal_eq_getElem, Array.getElem_setIfInBounds (hj := by simpa using h2), if_neg e] at hk; exact hk
            · simp at hk)
        omega
      · rw [hod]; simp [Act.put, hF.size]
      · rw [hod]; exact hF.defers
      · intro j oj k hoj hk hl
        rw [hod]
        by_cases e : j = i
        · subst e
          obtain rfl : ops[j] = oj := Option.some.inj (ho.symm.trans hoj)
          rw [hod] at hk; injection hk with hk; subst hk
          have hsz : d < a.tmps.size := by rw [hF.size, hn]; exact hdn
          have : (a.put (some d) v).tmps.getD d undef = v := by simp [Act.put, Array.getD, hsz]
          rw [this]; exact hv d hod
        · have hne : k ≠ d := fun h => e (huni j oj hoj (by rw [hk, h]))
          have : (a.put (some d) v).tmps.getD k undef = a.tmps.getD k undef := by
            rw [Array.getD_eq_getD_getElem?, Array.getD_eq_getD_getElem?, put_at, if_neg (fun h => hne h.1)]
          rw [this]
          refine hmono _ _ (hF.done j oj k hoj hk ?_)
          rw [Array.getD_eq_getD_getElem?, Array.getElem?_setIfInBounds_ne (Ne.symm e), ← Array.getD_eq_getD_getElem?] at hl
          exact hl
      · intro k hk
        rw [hod, put_at]
        have hne : k ≠ d := fun h => hk i _ ho (by simp [Array.getD, hil]) (by rw [hod, h])
        rw [if_neg (fun h => hne h.1)]
        refine hF.other k fun j oj hoj hl => hk j oj hoj ?_
        rw [Array.getD_eq_getD_getElem?] at hl ⊢
        by_cases e : i = j
        · subst e; simp [Array.getElem?_setIfInBounds, hil]
        · rw [Array.getElem?_setIfInBounds_ne e]; exact hl
    · rw [Array.getD_eq_getD_getElem?, Array.getD_eq_getD_getElem?, hF.other k (fun j oj hoj _ h => hk (mem_dst j oj k hoj h))]
    · have := hdeps e (by simpa using he)
      rw [hb] at this
      simp only [Bool.not_true, Bool.false_or] at this
      exact hF.done e.on oj k hoj hk this
theorem wp_region_free {id : Nat} {a : Act} {w : World} (n : Nat) (T : Nat → Value → World → Prop) (C : World → Prop) (hm : P.follows .mixedOrders = true) (hB : freeB ops n = true) (hn : a.tmps.size = n) (hC : C w.drew) (hop : ∀ (i : Nat) o, ops[i]? = some o → OpOK P ops T C Q a o)
    (hQ : ∀ (f : Nat → Value) (w' : World), C w' → (∀ d ∈ dstsOf ops.toList, T d (f d) w') → Q .normal (putAll a f ops.toList) w') : (Code.region id ops true).wp P Q a w := by
  refine wp_region_any hm (free_any n hB hn hop hQ ops.size _ a _ (by simp) ?_ ⟨hC, rfl, rfl, ?_, fun _ _ => rfl⟩)
  · exact Nat.le_trans List.countP_le_length (by simp)
  · intro j o d _ _ h
    rw [getD_replicate_false] at h; cases h
def needsB (l : List Oper) (nd : List (List Nat)) : Bool := (List.range l.length).all fun i => match l[i]? with
  | some o => ((nd[i]?).getD []).all fun s => o.after.toList.any fun e => Region.binds .any e && decide ((l[e.on]?).bind (·.dst) = some s)
  | none => true
def OpTo (P : Program) (dsts : List Nat) (T : Nat → Value → World → Prop) (C : World → Prop) (Q : Exit → Act → World → Prop) (b0 : Act) (o : Oper) (ns : List Nat) : Prop :=
  ∀ (b : Act) (w : World), C w → (∀ d, d ∉ dsts → b.tmps.getD d undef = b0.tmps.getD d undef) → (∀ d ∈ ns, T d (b.tmps.getD d undef) w) →
    o.wp P b w (fun b' w' => C w' ∧ (∀ d v, T d v w → T d v w') ∧ ∃ v, b' = b.put o.dst v ∧ ∀ d, o.dst = some d → T d v w') Q
def AllTo (P : Program) (dsts : List Nat) (T : Nat → Value → World → Prop) (C : World → Prop) (Q : Exit → Act → World → Prop) (b0 : Act) : List Oper → List (List Nat) → Prop
  | [], _ => True
  | o :: r, nd => OpTo P dsts T C Q b0 o (nd.headD []) ∧ AllTo P dsts T C Q b0 r nd.tail
theorem AllTo.at_ {dsts : List Nat} {b0 : Act} {l : List Oper} : ∀ {nd : List (List Nat)}, AllTo P dsts T C Q b0 l nd → ∀ (i : Nat) o, l[i]? = some o → OpTo P dsts T C Q b0 o ((nd[i]?).getD []) := by
  induction l with
  | nil => intro nd h i o hi; simp at hi
  | cons x r ih =>
    intro nd h i o hi
    cases i with
    | zero => simp at hi; subst hi; cases nd <;> exact h.1
    | succ i => cases nd with
      | nil => exact ih h.2 i o (by simpa using hi)
      | cons y s => exact ih h.2 i o (by simpa using hi)
theorem wp_region_to {id : Nat} {a : Act} {w : World} {l : List Oper} (n : Nat) (dsts : List Nat) (nd : List (List Nat)) (T : Nat → Value → World → Prop) (C : World → Prop) (hm : P.follows .mixedOrders = true) (hB : freeB l.toArray n = true) (hd : dstsOf l = dsts) (hnd : needsB l nd = true) (hn : a.tmps.size = n) (hC : C w.drew)
    (hop : ∀ (Q : Exit → Act → World → Prop) (b0 : Act), b0 = a → AllTo P dsts T C Q b0 l nd)
    (hQ : ∀ (f : Nat → Value) (w' : World), C w' → (∀ d ∈ dsts, T d (f d) w') → Q .normal (putAll a f l) w') : (Code.region id l.toArray true).wp P Q a w := by
  subst hd
  refine wp_region_free n T C hm hB hn hC (fun i o ho b w hC' hf hdep => ?_) hQ
  refine (hop Q a rfl).at_ i o (by simpa using ho) b w hC' hf fun s hs => ?_
  have hlt : i < l.length := by
    have := (List.getElem?_eq_some_iff.1 (by simpa using ho : l[i]? = some o)).1
    exact this
  have h1 := List.all_eq_true.1 hnd i (List.mem_range.2 hlt)
  rw [show l[i]? = some o by simpa using ho] at h1
  obtain ⟨e, he, h2⟩ := List.any_eq_true.1 (List.all_eq_true.1 h1 s hs)
  simp only [Bool.and_eq_true, decide_eq_true_eq] at h2
  cases hoj : l[e.on]? with
  | none => rw [hoj] at h2; exact absurd h2.2 (by simp)
  | some oj =>
    rw [hoj] at h2
    exact hdep e he h2.1 oj s (by simpa using hoj) h2.2
end
end Go.Proofs.YtbemeapjeipjlaaGreatDoor
