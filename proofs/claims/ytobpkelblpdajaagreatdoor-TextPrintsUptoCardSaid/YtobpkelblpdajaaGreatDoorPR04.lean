/- A region that draws its order, whose own operations only read and whose callees may make memory: one walk, in a class of worlds. -/
import Derived.Deep.Quiet
import Derived.Deep.QuietTactic
import Derived.BigQuiet
import Derived.Below
import Derived.KernelRfl
import Derived.RowKit
import Derived.StillTail
import Derived.Test.YtobpkelblpdajaaGreatDoorPR03
set_option linter.unusedVariables false
set_option linter.unusedSimpArgs false
set_option linter.unusedSectionVars false
namespace Go.Proofs.YtobpkelblpdajaaGreatDoor
open Go Go.RowKit
theorem wp_region_class_lit {P : Program} (C : World → Prop) {id : Nat} {Q : Exit → Act → World → Prop} {a : Act} {w : World} {l : List Oper} (hm : P.follows .mixedOrders = true) (hB : Region.lexB .any l.toArray = true) (hC : C { w with drawn := w.drawn + 1 })
    (h : wpQuiet P l.toArray C (fun a' => ∀ w', C w' → Q .normal a' w') l a) : (Code.region id l.toArray true).wp P Q a w :=
  wp_region_quiet (C := C) hm hB hC (by simpa using h)
/- The walk, behind a structure: the elaborator does not unfold it. -/
structure WpC (P : Program) (ops : Array Oper) (C : World → Prop) (Q : Act → Prop) (l : List Oper) (a : Act) : Prop where
  out : wpQuiet P ops C Q l a
theorem WpC.step {P : Program} {ops : Array Oper} {C : World → Prop} {Q : Act → Prop} {o : Oper} {rest : List Oper} {a : Act}
    (h : ∀ K : Act → Prop, (∀ a, WpC P ops C Q rest a → K a) → if Region.wanted o (yielded ops a.tmps) then o.quiet P a C K else K (a.put o.dst undef)) : WpC P ops C Q (o :: rest) a :=
  ⟨wpQuiet_step fun K hK => h K fun a ha => hK a ha.out⟩
theorem WpC.nil {P : Program} {ops : Array Oper} {C : World → Prop} {Q : Act → Prop} {a : Act} (h : Q a) : WpC P ops C Q [] a := ⟨wpQuiet_nil h⟩
theorem bcellB {B : Nat} {W w1 : World} (hb : Below B W w1) : (∀ b o, b < B → w1.cell? ⟨b, o, none⟩ = W.cell? ⟨b, o, none⟩) ∧ (∀ b o, b < B → w1.frozen? ⟨b, o, none⟩ = W.frozen? ⟨b, o, none⟩) :=
  ⟨fun b o h => hb.cell (p := ⟨b, o, none⟩) h, fun b o h => hb.frozen (p := ⟨b, o, none⟩) h⟩
theorem below_then {B : Nat} {w W w1 : World} (hW : Below B w W) (hB : B ≤ w.heap.size) (h : Below W.heap.size W w1) : Below B w w1 := hW.trans (h.mono (Nat.le_trans hB hW.size))
/- One operation of the walk: loads by the first tactic (the world is W, its class hW), calls by the second. -/
theorem wp_region_below_lit {P : Program} {id : Nat} {Q : Exit → Act → World → Prop} {a : Act} {w : World} {l : List Oper} (hm : P.follows .mixedOrders = true) (hB : Region.lexB .any l.toArray = true)
    (h : WpC P l.toArray (fun W => Below w.heap.size w W) (fun a' => ∀ w', Below w.heap.size w w' → Q .normal a' w') l a) : (Code.region id l.toArray true).wp P Q a w :=
  wp_region_class_lit (fun W => Below w.heap.size w W) hm hB ⟨rfl, rfl, rfl, Nat.le_refl _, fun _ _ => rfl⟩ h.out
/- A head that only reads (its callees may make memory), in any order; behind it a tail, one after the other. -/
section
variable {P : Program} {ops : Array Oper} {md : Region.Mode} {C : World → Prop}
def headC (P : Program) (md : Region.Mode) (ops : Array Oper) (C : World → Prop) (n : Nat) (L : Array Bool → Act → Prop) : Nat → Array Bool → Act → Prop
  | 0, listed, a => L listed a
  | f + 1, listed, a => Region.ready md ops listed ≠ [] ∧ ∀ i ∈ Region.ready md ops listed, i < n ∧ qOp P ops C i (headC P md ops C n L f (listed.setIfInBounds i true)) a
theorem headC_any {n g : Nat} {L : Array Bool → Act → Prop} {Q : Exit → Act → World → Prop} (hL : ∀ listed a w, C w → L listed a → wpAny P md ops Q g listed a w) :
    ∀ (f : Nat) (listed : Array Bool) (a : Act) (w : World), C w → headC P md ops C n L f listed a → wpAny P md ops Q (f + g) listed a w
  | 0, _, _, _, hw, h => by rw [Nat.zero_add]; exact hL _ _ _ hw h
  | f + 1, listed, a, w, hw, h => by
    rw [show f + 1 + g = (f + g) + 1 by omega]
    exact ⟨fun h0 => absurd h0 h.1, fun i hi => wpOp_of_qOp hw (fun a' w' hw' h' => headC_any hL f _ a' w' hw' h') (h.2 i hi).2⟩
def sinkX (md : Region.Mode) (ops : Array Oper) (n : Nat) (ds : List Nat) : Bool :=
  (List.range n).all fun i => ds.contains i || (List.range (n + 1)).any fun j => decide (i < j) && Region.waitsFor md ops j i
theorem tail_waitsX {n : Nat} {ds : List Nat} {listed : Array Bool} (hs : sinkX md ops n ds = true) (hc : Region.chainB md ops n = true) (hn : n < ops.size) (inv : HeadInv md ops n listed) (hds : ∀ d ∈ ds, listed.getD d false = true) :
    ∀ (d i : Nat), n - i = d → i < n → listed.getD i true = false → ∀ t, n ≤ t → t ∉ Region.ready md ops listed := by
  intro d
  induction d using Nat.strongRecOn with
  | _ d ih =>
    intro i hd hi hun t ht hr
    obtain ⟨_, ot, hot, hall⟩ := mem_ready.1 hr
    have htl : t < ops.size := (Array.getElem?_eq_some_iff.1 hot).1
    by_cases htn : t = n
    · subst htn
      have h1 := List.all_eq_true.1 hs i (List.mem_range.2 hi)
      simp only [Bool.or_eq_true] at h1
      rcases h1 with h1 | h1
      · have := hds i (by simpa using h1)
        rw [getD_both hun] at this; cases this
      obtain ⟨j, hj, hj2⟩ := List.any_eq_true.1 h1
      simp only [Bool.and_eq_true, decide_eq_true_eq] at hj2
      obtain ⟨oj, hoj, x, hx, hb, hon⟩ := Region.waitsFor_spec hj2.2
      have hjl : j < t + 1 := List.mem_range.1 hj
      by_cases hjt : j = t
      · subst hjt
        obtain rfl : oj = ot := Option.some.inj (hoj.symm.trans hot)
        have h2 := hall x hx hb
        rw [hon, getD_both hun] at h2; cases h2
      · cases hl : listed.getD j false with
        | true =>
          have h2 := inv.closed j oj hoj hl x hx hb
          rw [hon, getD_both hun] at h2; cases h2
        | false => exact ih (t - j) (by omega) j rfl (by omega) (getD_in (by rw [inv.size]; omega) hl) t (Nat.le_refl _) hr
    · have h1 := List.all_eq_true.1 hc t (List.mem_range.2 htl)
      simp only [Bool.or_eq_true, decide_eq_true_eq] at h1
      rcases h1 with h1 | h1
      · omega
      · obtain ⟨o', ho', x, hx, hb, hon⟩ := Region.waitsFor_spec h1
        obtain rfl : o' = ot := Option.some.inj (ho'.symm.trans hot)
        have h2 := hall x hx hb
        rw [hon, getD_both (inv.tail (t - 1) (by omega) (by omega))] at h2; cases h2
theorem headC_first {n i : Nat} {ds : List Nat} {oi : Oper} {v : Value} {L : Array Bool → Act → Prop} (hi : ops[i]? = some oi) (hsel : ∀ (j : Nat) (o : Oper) cs b, ops[j]? = some o → o.op ≠ .select cs b)
    (hs : sinkX md ops n ds = true) (hc : Region.chainB md ops n = true) (hn : n < ops.size) (hin : i < n) (hdone : ∀ listed a, L listed a → ∀ j ∈ Region.ready md ops listed, n ≤ j) (f : Nat) :
    ∀ (listed : Array Bool) (a : Act), HeadInv md ops n listed → (∀ d ∈ ds, listed.getD d false = true) →
      (∀ j oj, ops[j]? = some oj → j ≠ i → listed.getD j true = false → (∀ e ∈ oj.after, Region.binds md e = true → e.on ≠ i) → oi.apart ops oj = true) →
      i ∈ Region.ready md ops listed → YieldsIn P ops C oi v a → headC P md ops C n L f (listed.setIfInBounds i true) (a.put oi.dst v) → headC P md ops C n L (f + 1) listed a := by
  have low : ∀ (listed : Array Bool), HeadInv md ops n listed → (∀ d ∈ ds, listed.getD d false = true) → i ∈ Region.ready md ops listed → ∀ j ∈ Region.ready md ops listed, j < n := fun listed inv hds hr j hj =>
    Nat.lt_of_not_le fun h => tail_waitsX hs hc hn inv hds _ i rfl hin (mem_ready.1 hr).1 j h hj
  induction f with
  | zero =>
    intro listed a inv hds _ hr hy H
    refine ⟨List.ne_nil_of_mem hr, fun j hj => ⟨low listed inv hds hr j hj, ?_⟩⟩
    by_cases e : j = i
    · subst e; exact hy.qOp hi H
    · have := hdone _ _ H j (ready_mono hj e); have := low listed inv hds hr j hj; omega
  | succ f ih =>
    intro listed a inv hds hfree hr hy H
    refine ⟨List.ne_nil_of_mem hr, fun j hj => ⟨low listed inv hds hr j hj, ?_⟩⟩
    by_cases e : j = i
    · subst e; exact hy.qOp hi H
    · obtain ⟨hjun, oj, hoj, hall⟩ := mem_ready.1 hj
      have hnot : ∀ x ∈ oj.after, Region.binds md x = true → x.on ≠ i := fun x hx hb he => by
        have h1 := hall x hx hb
        rw [he, getD_both (mem_ready.1 hr).1] at h1
        cases h1
      refine qOp_mono (fun a' h3 => ?_) (qOp_put hoj (hfree j oj hoj e hjun hnot) (fun cs b => hsel i oi cs b hi) (fun cs b => hsel j oj cs b hoj) hy (H.2 j (ready_mono hj e)).2)
      refine ih _ a' (inv.set hj (low listed inv hds hr j hj)) (fun d hd => getD_set_true (hds d hd)) (fun k ok hk hki hun hno => hfree k ok hk hki ?_ hno) (ready_mono hr (Ne.symm e)) h3.1 (by rw [Array.setIfInBounds_comm _ _ e]; exact h3.2)
      by_cases q : j = k
      · subst q; exact hjun
      · rw [getD_set_ne true q] at hun; exact hun
theorem headC_lex {n g : Nat} {ds : List Nat} {L : Act → Prop} (hsel : Region.noSelect ops = true) (hs : sinkX md ops n ds = true) (hc : Region.chainB md ops n = true) (hn : n < ops.size) :
    ∀ (l : List Oper) (k : Nat) (listed : Array Bool) (a : Act), (∀ j, j < l.length → l[j]? = ops[k + j]?) → k + l.length = n → HeadInv md ops n listed → (∀ d ∈ ds, listed.getD d false = true) →
    Region.lexHead md ops g l.length k listed = true → wpQuiet P ops C L l a → headC P md ops C n (fun ls a' => Region.seqB md ops g n ls = true ∧ L a') l.length listed a
  | [], k, listed, a, _, hk, _, _, hB, h => by
    obtain rfl : k = n := by simpa using hk
    exact ⟨by simpa [Region.lexHead] using hB, h⟩
  | o :: l, k, listed, a, hl, hk, inv, hds, hB, h => by
    have h0 : ops[k]? = some o := by simpa using (hl 0 (by simp)).symm
    simp only [List.length_cons, Region.lexHead, Bool.and_eq_true] at hB
    obtain ⟨⟨hr, hf⟩, hB⟩ := hB
    simp only [List.length_cons] at hk
    have hr : k ∈ Region.ready md ops listed := by simpa using hr
    obtain ⟨v, hy, hK⟩ := yieldsIn_of_qOp h0 (show qOp P ops C k (wpQuiet P ops C L l) a by unfold qOp; simp only [h0]; exact h)
    exact headC_first h0 (Region.noSelect_spec hsel) hs hc hn (by omega) (fun _ _ h => seqB_ready h.1) l.length listed a inv hds (Region.free_spec h0 hf) hr hy
      (headC_lex hsel hs hc hn l (k + 1) _ _ (fun j hj => by have := hl (j + 1) (by simp; omega); simpa [Nat.add_assoc, Nat.add_comm 1 j] using this) (by omega) (inv.set hr (by omega)) (fun d hd => getD_set_true (hds d hd)) hB hK)
theorem class_tail_from {Q : Exit → Act → World → Prop} {a : Act} {w : World} {l : List Oper} (m n : Nat) (ds : List Nat) (listed : Array Bool) (hsel : Region.noSelect l.toArray = true) (hn : n < l.toArray.size) (hmn : m ≤ n) (hs : sinkX md l.toArray n ds = true) (hc : Region.chainB md l.toArray n = true)
    (inv : HeadInv md l.toArray n listed) (hds : ∀ d ∈ ds, listed.getD d false = true) (hlex : Region.lexHead md l.toArray (l.toArray.size - n) (n - m) m listed = true) (hC : C w)
    (h : WpC P l.toArray C (fun a' => ∀ w', C w' → wpList P l.toArray Q (l.drop n) a' w') ((l.take n).drop m) a) : wpAny P md l.toArray Q (l.toArray.size - m) listed a w := by
  have hn' : n < l.length := by simpa using hn
  have htl : ((l.take n).drop m).length = n - m := by simp; omega
  have hdl : (l.drop n).length = l.toArray.size - n := by simp
  have H := headC_lex (md := md) (g := l.toArray.size - n) hsel hs hc hn ((l.take n).drop m) m listed a (fun j hj => by
    have : m + j < n := by rw [htl] at hj; omega
    simp [List.getElem?_drop, this]) (by rw [htl]; omega) inv hds (by rw [htl]; exact hlex) h.out
  have R := headC_any (Q := Q) (g := l.toArray.size - n) (fun ls a' w' hw' hL => by
    have := wpAny_of_seq (md := md) (Q' := Q) (l.drop n) n ls a' w' (fun j => by simp [List.getElem?_drop]) (by rw [hdl]; exact hL.1) (hL.2 w' hw')
    rwa [hdl] at this) _ _ _ _ hC H
  rw [htl, show n - m + (l.toArray.size - n) = l.toArray.size - m by omega] at R
  exact R
def tailB (ops : Array Oper) (n : Nat) : Bool := Region.noSelect ops && decide (n < ops.size) && sinkX .any ops n [] && Region.chainB .any ops n && Region.lexHead .any ops (ops.size - n) n 0 (Array.replicate ops.size false)
theorem inv0 (ops : Array Oper) (n : Nat) : HeadInv md ops n (Array.replicate ops.size false) :=
  ⟨by simp, fun j oj _ hl => (by rw [getD_replicate_false] at hl; cases hl), fun t _ ht => getD_in (by simpa using ht) (getD_replicate_false _ _)⟩
theorem wp_region_class_tail {id : Nat} {Q : Exit → Act → World → Prop} {a : Act} {w : World} {l : List Oper} (n : Nat) (hm : P.follows .mixedOrders = true) (hB : tailB l.toArray n = true) (hC : C { w with drawn := w.drawn + 1 })
    (h : WpC P l.toArray C (fun a' => ∀ w', C w' → wpList P l.toArray Q (l.drop n) a' w') (l.take n) a) : (Code.region id l.toArray true).wp P Q a w := by
  simp only [tailB, Bool.and_eq_true, decide_eq_true_eq] at hB
  obtain ⟨⟨⟨⟨hsel, hn⟩, hs⟩, hc⟩, hlex⟩ := hB
  refine wp_region_any hm ?_
  have := class_tail_from (P := P) (C := C) (md := .any) (Q := Q) 0 n [] (Array.replicate l.toArray.size false) hsel hn (Nat.zero_le _) hs hc (inv0 _ _) (by simp) (by simpa using hlex) hC (by simpa using h)
  simpa using this
/- The first operation makes nothing and reads no memory, but the tail alone waits for it. -/
end
theorem wp_region_below_tail {P : Program} {id : Nat} {Q : Exit → Act → World → Prop} {a : Act} {w : World} {l : List Oper} (n : Nat) (hm : P.follows .mixedOrders = true) (hB : tailB l.toArray n = true)
    (h : WpC P l.toArray (fun W => Below w.heap.size w W) (fun a' => ∀ w', Below w.heap.size w w' → wpList P l.toArray Q (l.drop n) a' w') (l.take n) a) : (Code.region id l.toArray true).wp P Q a w :=
  wp_region_class_tail n hm hB ⟨rfl, rfl, rfl, Nat.le_refl _, fun _ _ => rfl⟩ h
end Go.Proofs.YtobpkelblpdajaaGreatDoor
/- Walks: value.fields. -/
namespace Go.Proofs.YtobpkelblpdajaaGreatDoor
open Go Go.RowKit
/- Go's <= of texts. -/
def leS (a b : ByteArray) : Bool := Op.bytesLess a.toList b.toList || a.toList == b.toList
def FieldsTo (l : List (ByteArray × V)) (k : Nat) : Prop := ∀ (i : Nat) (p : ByteArray × V), i < k → l[i]? = some p → nameB p.1.data.toList = true ∧ ∀ q, 0 < i → l[i - 1]? = some q → leS p.1 q.1 = false
open Classical in
noncomputable def fieldsV (l : List (ByteArray × V)) : Nat := if 4096 < l.length then 2 else if FieldsTo l l.length then 0 else 8
theorem FieldsTo.zero (l : List (ByteArray × V)) : FieldsTo l 0 := fun i p h => by omega
theorem FieldsTo.succ {l : List (ByteArray × V)} {k : Nat} {p : ByteArray × V} (h : FieldsTo l k) (hp : l[k]? = some p) (hn : nameB p.1.data.toList = true) (hq : ∀ q, 0 < k → l[k - 1]? = some q → leS p.1 q.1 = false) : FieldsTo l (k + 1) := by
  intro i r hi hr
  by_cases e : i = k
  · subst e; rw [hp] at hr; injection hr with hr; subst hr; exact ⟨hn, hq⟩
  · exact h i r (by omega) hr
theorem fieldsV_long {l : List (ByteArray × V)} (h : 4096 < l.length) : fieldsV l = 2 := by unfold fieldsV; rw [if_pos h]
theorem fieldsV_ok {l : List (ByteArray × V)} (h : l.length ≤ 4096) (hf : FieldsTo l l.length) : fieldsV l = 0 := by unfold fieldsV; rw [if_neg (by omega), if_pos hf]
theorem fieldsV_bad {l : List (ByteArray × V)} {k : Nat} {p : ByteArray × V} (h : l.length ≤ 4096) (hp : l[k]? = some p) (hb : nameB p.1.data.toList = false ∨ ∃ q, 0 < k ∧ l[k - 1]? = some q ∧ leS p.1 q.1 = true) : fieldsV l = 8 := by
  unfold fieldsV
  rw [if_neg (by omega), if_neg]
  intro hf
  have hk : k < l.length := (List.getElem?_eq_some_iff.1 hp).1
  obtain ⟨h1, h2⟩ := hf k p hk hp
  rcases hb with hb | ⟨q, h3, h4, h5⟩
  · rw [h1] at hb; cases hb
  · rw [h2 q h3 h4] at h5; cases h5
theorem RdS.one {w : World} {S : Nat → Prop} {x : V} {v : Value} (h : RdS w S x v) : v.oneCell' = true := by
  cases x with
  | nil => subst h; rfl
  | bool b => subst h; rfl
  | int n => obtain ⟨rfl, _⟩ := h; rfl
  | flt n => subst h; rfl
  | text s => obtain ⟨rfl, _⟩ := h; rfl
  | bytes l => obtain ⟨A, c, rfl, _⟩ := h; rfl
  | ref n => obtain ⟨rfl, _⟩ := h; rfl
  | list l => obtain ⟨A, c, rfl, _⟩ := h; rfl
  | dict l => obtain ⟨A, c, rfl, _⟩ := h; rfl
  | record a b c => obtain ⟨b, rfl, _⟩ := h; rfl
  | nothing => subst h; rfl
  | alien => obtain ⟨t, x, rfl, ht⟩ := h; rfl
theorem Rd.one {w : World} {B : Nat} {x : V} {v : Value} (h : Rd w B x v) : v.oneCell' = true := RdS.one h
/- A slice of fields, as it lies. -/
def DictAt (w : World) (B : Nat) (A : Option Addr) (l : List (ByteArray × V)) : Prop := l = [] ∨ ∃ b off, A = some ⟨b, off, none⟩ ∧ b < B ∧ RdD w (fun b => b < B) b off l
theorem DictAt.below {w w' : World} {B : Nat} {A : Option Addr} {l : List (ByteArray × V)} (h : DictAt w B A l) (hb : Below B w w') : DictAt w' B A l := by
  refine h.imp id ?_
  rintro ⟨b, off, hA, hB, hr⟩
  refine ⟨b, off, hA, hB, RdD.iff.2 fun i x hx => ?_⟩
  obtain ⟨hn, hs, v, hv, hd⟩ := RdD.iff.1 hr i x hx
  exact ⟨(hb.cell hB).trans hn, hs, v, (hb.cell hB).trans hv, hd.below hb⟩
theorem DictAt.more {w : World} {B B' : Nat} {A : Option Addr} {l : List (ByteArray × V)} (h : DictAt w B A l) (hB : B ≤ B') : DictAt w B' A l := by
  refine h.imp id ?_
  rintro ⟨b, off, hA, hb, hr⟩
  refine ⟨b, off, hA, by omega, RdD.iff.2 fun i x hx => ?_⟩
  obtain ⟨hn, hs, v, hv, hd⟩ := RdD.iff.1 hr i x hx
  exact ⟨hn, hs, v, hv, Rd.more hB _ _ hd⟩
theorem DictAt.at_ {w : World} {B : Nat} {A : Option Addr} {l : List (ByteArray × V)} (h : DictAt w B A l) {k : Nat} (hk : k < l.length) :
    ∃ b off, A = some ⟨b, off, none⟩ ∧ b < B ∧ RdD w (fun b => b < B) b off l := by
  rcases h with h | h
  · subst h; simp at hk
  · exact h
set_option maxRecDepth 100000 in
set_option maxHeartbeats 1000000 in
theorem fields_any (l : List (ByteArray × V)) (A : Option Addr) (c : Nat) (w : World) (hl : l.length ≤ 1099511627776) (hd : DictAt w w.heap.size A l) :
    Calls Tryz.prog 205 #[.slice A l.length c] w fun e w' => e = .returned (.int .i64 (fieldsV l)) ∧ Below w.heap.size w w' := by
  by_cases hlong : 4096 < l.length
  · have HF := Lib.hid (fieldsV_long hlong)
    go_enter Tryz.func205, Tryz.ntmps205
    go_wp2
    go_ret
    exact ⟨ret_int (by rw [HF.out]; rfl), Below.refl _ _⟩
  have hlen : l.length ≤ 4096 := by omega
  clear hlong
  go_enter Tryz.func205, Tryz.ntmps205
  go_wp2
  go_loopw [10] (fun i wr => ∃ k : Nat, i = .int .i64 k ∧ k ≤ l.length ∧ Hid (FieldsTo l k) ∧ Below w.heap.size w wr) (fun i _ => l.length - (intOf i).toNat)
  case atStart => exact ⟨0, rfl, by omega, FieldsTo.zero l, Below.refl _ _⟩
  case round =>
    obtain ⟨k, rfl, hk, HT, hb⟩ := hrel
    by_cases hlt : k < l.length
    · obtain ⟨b, off, rfl, hbB, hr⟩ := hd.at_ hlt
      have hz := hb.size
      obtain ⟨p, hp⟩ : ∃ p, l[k]? = some p := ⟨_, List.getElem?_eq_getElem hlt⟩
      obtain ⟨c0, hps, v, c1, hv⟩ := RdD.iff.1 hr k p hp
      have d0 := (hb.cell (p := ⟨b, off + k * 2, none⟩) hbB).trans c0
      have d1 := (hb.cell (p := ⟨b, off + k * 2 + 1, none⟩) hbB).trans c1
      have hst := fun (W : World) (a : Addr) (m : Mode) => run_store Tryz.prog W a v m hv.one
      have HP := Lib.hid hp
      clear hp c0 c1 hv
      have HN := fun (W : World) => name_any p.1 W hps
      cases hnm : nameB p.1.data.toList
      · have HF := Lib.hid (fieldsV_bad hlen HP.out (.inl hnm))
        rw [hnm] at HN
        have HNN := Lib.hid HN
        clear HN hnm
        go_wp2
        refine wp_region_below_lit (by kernel_rfl) (by kernel_rfl) ?_
        repeat (refine WpC.step (fun K hK => ?_); go_simp; first | (refine hK _ ?_; clear hK K) | (apply Exists.intro; refine ⟨fun W hW => ?_, hK _ ?_⟩; (first | (intros; rfl) | (refine ⟨rfl, ?_⟩; rfl) | ((obtain ⟨hc, hf⟩ := bcellB hW; go_simp; rfl)) | ((go_at_call 206; refine (HNN.out _).mono ?_; rintro e w1 ⟨rfl, hb1⟩; exact ⟨rfl, below_then hW (by go_simp) hb1⟩))); clear hK K))
        refine WpC.nil ?_
        intro wq hwq
        go_wp2
        go_ret
        exact ⟨ret_int (by rw [HF.out]; rfl), (hb.alloc hz _).trans (hwq.mono (by go_simp; omega))⟩
      · rw [hnm] at HN
        have HNN := Lib.hid HN
        have HNM := Lib.hid hnm
        clear HN hnm
        by_cases hk0 : k = 0
        · subst hk0
          simp only [Nat.zero_mul, Nat.add_zero] at d0 d1
          have HT2 : Hid (FieldsTo l (0 + 1)) := HT.out.succ HP.out HNM.out (fun q h => absurd h (by omega))
          go_wp2
          refine wp_region_below_lit (by kernel_rfl) (by kernel_rfl) ?_
          repeat (refine WpC.step (fun K hK => ?_); go_simp; first | (refine hK _ ?_; clear hK K) | (apply Exists.intro; refine ⟨fun W hW => ?_, hK _ ?_⟩; (first | (intros; rfl) | (refine ⟨rfl, ?_⟩; rfl) | ((obtain ⟨hc, hf⟩ := bcellB hW; go_simp; rfl)) | ((go_at_call 206; refine (HNN.out _).mono ?_; rintro e w1 ⟨rfl, hb1⟩; exact ⟨rfl, below_then hW (by go_simp) hb1⟩))); clear hK K))
          refine WpC.nil ?_
          intro wq hwq
          go_wp2
          refine ⟨⟨0 + 1, rfl, hlt, HT2, (hb.alloc hz _).trans (hwq.mono (by go_simp; omega))⟩, ?_⟩
          simp [intOf]; omega
        · obtain ⟨j, rfl⟩ : ∃ j, k = j + 1 := ⟨k - 1, by omega⟩
          obtain ⟨q, hq⟩ : ∃ q, l[j]? = some q := ⟨_, List.getElem?_eq_getElem (by omega)⟩
          obtain ⟨e0, hqs, -⟩ := RdD.iff.1 hr j q hq
          have dq := (hb.cell (p := ⟨b, off + j * 2, none⟩) hbB).trans e0
          clear e0
          have hwj : IntKind.i64.wrap (j : Int) = (j : Int) := by rw [IntKind.wrap_i64]; omega
          have hjl : j < l.length := by omega
          have hb1 : b < wr.heap.size + 1 := by omega
          have hb2 : b < wr.heap.size := by omega
          have hb3 : b ≠ wr.heap.size := by omega
          have hle' : (Op.bytesLess p.1.toList q.1.toList || p.1.toList == q.1.toList) = leS p.1 q.1 := rfl
          cases hle : leS p.1 q.1 <;> rw [hle] at hle'
          · have HT2 : Hid (FieldsTo l (j + 1 + 1)) := HT.out.succ HP.out HNM.out (fun q' _ h => by have : q' = q := Option.some.inj (h.symm.trans hq); rw [this]; exact hle)
            go_wp2
            refine wp_region_below_lit (by kernel_rfl) (by kernel_rfl) ?_
            repeat (refine WpC.step (fun K hK => ?_); go_simp; first | (refine hK _ ?_; clear hK K) | (apply Exists.intro; refine ⟨fun W hW => ?_, hK _ ?_⟩; (first | (intros; rfl) | (refine ⟨rfl, ?_⟩; rfl) | ((obtain ⟨hc, hf⟩ := bcellB hW; go_simp; rfl)) | ((go_at_call 206; refine (HNN.out _).mono ?_; rintro e w1 ⟨rfl, hb1⟩; exact ⟨rfl, below_then hW (by go_simp) hb1⟩))); clear hK K))
            refine WpC.nil ?_
            intro wq hwq
            go_wp2
            refine ⟨⟨j + 1 + 1, rfl, hlt, HT2, (hb.alloc hz _).trans (hwq.mono (by go_simp; omega))⟩, ?_⟩
            simp [intOf]; omega
          · have HF := Lib.hid (fieldsV_bad hlen HP.out (.inr ⟨q, by omega, hq, hle⟩))
            go_wp2
            refine wp_region_below_lit (by kernel_rfl) (by kernel_rfl) ?_
            repeat (refine WpC.step (fun K hK => ?_); go_simp; first | (refine hK _ ?_; clear hK K) | (apply Exists.intro; refine ⟨fun W hW => ?_, hK _ ?_⟩; (first | (intros; rfl) | (refine ⟨rfl, ?_⟩; rfl) | ((obtain ⟨hc, hf⟩ := bcellB hW; go_simp; rfl)) | ((go_at_call 206; refine (HNN.out _).mono ?_; rintro e w1 ⟨rfl, hb1⟩; exact ⟨rfl, below_then hW (by go_simp) hb1⟩))); clear hK K))
            refine WpC.nil ?_
            intro wq hwq
            go_wp2
            go_ret
            exact ⟨ret_int (by rw [HF.out]; rfl), (hb.alloc hz _).trans (hwq.mono (by go_simp; omega))⟩
    · obtain rfl : k = l.length := by omega
      have HF := Lib.hid (fieldsV_ok hlen HT.out)
      go_wp2
      go_ret
      exact ⟨ret_int (by rw [HF.out]; rfl), hb⟩
end Go.Proofs.YtobpkelblpdajaaGreatDoor
