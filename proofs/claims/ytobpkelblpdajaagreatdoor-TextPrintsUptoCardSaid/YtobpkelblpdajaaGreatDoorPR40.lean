/- Walk: the document's Print. -/
import Derived.Test.YtobpkelblpdajaaGreatDoorPR35
import Derived.Test.YtobpkelblpdajaaGreatDoorPR25
import Derived.Test.YtobpkelblpdajaaGreatDoorPR39
import Derived.Test.YtobpkelblpdajaaGreatDoorPR08
set_option linter.unusedVariables false
set_option linter.unusedSimpArgs false
set_option linter.unusedSectionVars false
namespace Go.Proofs.YtobpkelblpdajaaGreatDoor
open Go Go.RowKit
def FitP (x : V) : Prop := (partV x 1 ⟨0, 0, 0⟩).1 = true → Fit x 0 ∧ cntV x ≤ 16384
theorem fitP_of {x : V} {w : World} {S : Nat → Prop} {v : Value} (h : RdS w S x v) (hf : FltV x) : FitP x := fun hq => by
  have hfit := fit_of x w _ v 0 ⟨0, 0, 0⟩ h hf (by decide) hq
  have h1 := hfit.2.1
  have h2 := hfit.2.2
  simp only at h1
  exact ⟨hfit.1, by omega⟩
def PrintPost (ln : Bool) (x : V) (w : World) (e : Ending) (w' : World) : Prop := e = .returned (.tuple #[.string (printV ln x).1, .int .i64 (printV ln x).2]) ∧ Below w.heap.size w w'
set_option maxRecDepth 100000 in
set_option maxHeartbeats 2000000 in
theorem rPrint_any (ln : Bool) (T : Tm) (x : List Value) (w : World) (hx : RdT w w.heap.size T x) (hF : FitP (builtV T)) : Calls Tryz.prog 33 #[termOf x, .bool ln] w (PrintPost ln (builtV T) w) := by
  have HCk := Lib.hid (fun (W : World) (h : RdT W W.heap.size T x) => rcheck_any T x W h)
  obtain ⟨x0, x1, x2, x3, x4, x5, x6, x7, x8, x9, x10, rfl, h1c⟩ := hx.eleven
  have hbx : Below w.heap.size w (w.alloc (.cells #[x0, x1, x2, x3, x4, x5, x6, x7, x8, x9, x10] 29)) := (Below.refl _ _).alloc (Nat.le_refl _) _
  have HX0 := Lib.hid (RdT.more (by simp) _ _ (RdT.below hx hbx) : RdT (w.alloc (.cells #[x0, x1, x2, x3, x4, x5, x6, x7, x8, x9, x10] 29)) (w.alloc (.cells #[x0, x1, x2, x3, x4, x5, x6, x7, x8, x9, x10] 29)).heap.size T [x0, x1, x2, x3, x4, x5, x6, x7, x8, x9, x10])
  have HX := Lib.hid hx
  by_cases hq : (partV (builtV T) 1 ⟨0, 0, 0⟩).1 = true
  · have hc := checkV_yes hq
    obtain ⟨hfit, hlen⟩ := hF hq
    have HP : Hid (printV ln (builtV T) = (⟨(putV ln (builtV T) 0).toArray⟩, 0)) := Lib.hid (by unfold printV; rw [if_pos (by rw [hc])])
    have HPU := Lib.hid (fun (W : World) (h : RdT W W.heap.size T [x0, x1, x2, x3, x4, x5, x6, x7, x8, x9, x10]) => rput_any ln T _ (.slice none 0 0) [] W.heap.size W 0 h (Nat.le_refl _) (OwnB.nil _ _) hfit (by simp only [List.length_nil]; omega))
    have HC2 : Hid (∀ W : World, RdT W W.heap.size T [x0, x1, x2, x3, x4, x5, x6, x7, x8, x9, x10] → Calls Tryz.prog 11 #[termOf [x0, x1, x2, x3, x4, x5, x6, x7, x8, x9, x10]] W (fun e w' => e = .returned (.tuple #[.int .i64 0, .int .i64 0]) ∧ Below W.heap.size W w')) := Lib.hid (fun W h => by have := HCk.out W h; unfold CheckPost at this; rw [hc] at this; exact this)
    clear hc hfit hlen hx hF HCk hq hbx
    unfold termOf
    go_enter Tryz.func33, Tryz.ntmps33
    go_wp2_with fail
    refine (HC2.out _ HX0.out).mono ?_
    rintro e w1 ⟨rfl, hb1⟩
    have hz1 : w.heap.size < w1.heap.size := by have := hb1.size; simp at this; omega
    have hb01 : Below w.heap.size w w1 := ((Below.refl w.heap.size w).alloc (Nat.le_refl _) (.cells #[x0, x1, x2, x3, x4, x5, x6, x7, x8, x9, x10] 29)).trans (hb1.mono (by simp))
    have HX1 := Lib.hid (RdT.more hb01.size _ _ (RdT.below HX.out hb01))
    have e1' : Lie w1 w.heap.size 0 [x0, x1, x2, x3, x4, x5, x6, x7, x8, x9, x10] := fun j y hj => (hb1.cell (p := ⟨w.heap.size, 0 + j, none⟩) (by simp)).trans (by
      rw [Lib.cell_of_heap (heap_alloc_new w _)]; simpa using hj)
    have q0 := e1' 0 _ rfl
    have q1 := e1' 1 _ rfl
    have q2 := e1' 2 _ rfl
    have q3 := e1' 3 _ rfl
    have q4 := e1' 4 _ rfl
    have q5 := e1' 5 _ rfl
    have q6 := e1' 6 _ rfl
    have q7 := e1' 7 _ rfl
    have q8 := e1' 8 _ rfl
    have q9 := e1' 9 _ rfl
    have q10 := e1' 10 _ rfl
    simp only [Nat.add_zero] at q0
    have HB := Lib.hid hb01
    clear e1' hb1 hb01
    go_wp2_with fail
    refine (HPU.out w1 HX1.out).mono ?_
    rintro e w2 ⟨v2, rfl, ho2, hr2⟩
    rw [List.nil_append] at ho2
    generalize putV ln (builtV T) 0 = M at *
    have hcv := conv_any ho2
    obtain ⟨A2, c2, rfl⟩ := ownsRow_form ho2
    have HB2 := Lib.hid hr2.1
    clear ho2 hr2
    go_wp2_with fail
    go_ret2
    exact ⟨by rw [HP.out]; rfl, HB.out.trans (HB2.out.mono HB.out.size)⟩
  · have hq2 : (partV (builtV T) 1 ⟨0, 0, 0⟩).1 = false := by cases hh : (partV (builtV T) 1 ⟨0, 0, 0⟩).1; rfl; exact absurd hh hq
    have hw := part_why (builtV T) 1 ⟨0, 0, 0⟩ hq2
    have hc := checkV_no hq2
    have HP : Hid (printV ln (builtV T) = (ByteArray.empty, (checkV (builtV T)).2)) := Lib.hid (by unfold printV; rw [if_neg (by rw [hc]; exact hw)])
    have hn : ((checkV (builtV T)).2 : Int) ≠ 0 := by rw [hc]; omega
    have hb : (((checkV (builtV T)).2 : Int) != 0) = true := by rw [bne_iff_ne]; exact hn
    have HK := Lib.hid (fun (W : World) (h : RdT W W.heap.size T [x0, x1, x2, x3, x4, x5, x6, x7, x8, x9, x10]) => by have := HCk.out W h; unfold CheckPost at this; exact this)
    generalize (checkV (builtV T)).2 = n2 at *
    generalize (checkV (builtV T)).1 = n1 at *
    clear hc hw hq hq2 hx hF HCk hbx
    unfold termOf
    go_enter Tryz.func33, Tryz.ntmps33
    go_wp2_with fail
    refine (HK.out _ HX0.out).mono ?_
    rintro e w1 ⟨rfl, hb1⟩
    have HB := Lib.hid (((Below.refl w.heap.size w).alloc (Nat.le_refl _) (.cells #[x0, x1, x2, x3, x4, x5, x6, x7, x8, x9, x10] 29)).trans (hb1.mono (by simp)))
    clear hb1
    go_wp2
    go_ret2
    exact ⟨by rw [HP.out]; rfl, HB.out⟩
end Go.Proofs.YtobpkelblpdajaaGreatDoor
/- A region that draws its order: loads and moves that no other operation of it can touch are taken first, wherever they stand; behind them the rest, one after the other. -/
namespace Go.Proofs.YtobpkelblpdajaaGreatDoor
open Go Go.RowKit
def seqIB (md : Region.Mode) (ops : Array Oper) : List Nat → Array Bool → Bool
  | [], listed => (Region.ready md ops listed).isEmpty
  | i :: r, listed => decide (Region.ready md ops listed = [i]) && seqIB md ops r (listed.setIfInBounds i true)
def headIB (md : Region.Mode) (ops : Array Oper) (t : List Nat) : List Nat → Array Bool → Bool
  | [], listed => seqIB md ops t listed
  | i :: r, listed => (Region.ready md ops listed).contains i && Region.free md ops listed i && headIB md ops t r (listed.setIfInBounds i true)
def pickI (l : List Oper) : List Nat → List Oper
  | [] => []
  | i :: r => match l[i]? with
    | some o => o :: pickI l r
    | none => []
section
variable {P : Program} {l : List Oper} {md : Region.Mode} {S : World → Prop} {Q : Exit → Act → World → Prop}
theorem seqS_anyI : ∀ (is : List Nat) (listed : Array Bool) (a : Act) (w : World), (∀ i ∈ is, i < l.length) → seqIB md l.toArray is listed = true → seqS P l.toArray S Q (pickI l is) a w → wpAnyH P md l.toArray Q S is.length listed a w
  | [], _, _, _, _, hB, h => ⟨by simpa [seqIB] using hB, h⟩
  | k :: r, listed, a, w, hl, hB, h => by
    have hk : k < l.length := hl k (by simp)
    have h0 : l.toArray[k]? = some l[k] := by simp [hk]
    have hp : pickI l (k :: r) = l[k] :: pickI l r := by rw [pickI, List.getElem?_eq_getElem hk]
    rw [hp] at h
    simp only [seqIB, Bool.and_eq_true, decide_eq_true_eq] at hB
    refine wpAnyH_all hB.1 (by simp) fun i hi => ?_
    obtain rfl : i = k := by simpa using hi
    have R := fun a' w' (h' : seqS P l.toArray S Q (pickI l r) a' w') => seqS_anyI r (listed.setIfInBounds i true) a' w' (fun j hj => hl j (by simp [hj])) hB.2 h'
    unfold wpOp
    simp only [h0]
    unfold seqS at h
    split
    · rename_i hw
      rw [if_pos hw] at h
      exact .inl (Oper.wp_mono (fun a' w' h' => ⟨h'.1, R _ _ h'.2⟩) h)
    · rename_i hw
      rw [if_neg hw] at h
      exact ⟨h.1, R _ _ h.2⟩
theorem held_lexI {t : List Nat} {L : Act → Prop} (hsel : Region.noSelect l.toArray = true) (hQ : ∀ c a w d v, Q (.panic c) (a.put d v) w → Q (.panic c) a w) {w : World} (hS : S w) :
    ∀ (is : List Nat) (listed : Array Bool) (a : Act), (∀ i ∈ is, i < l.length) → headIB md l.toArray t is listed = true → hdS P l.toArray S L (pickI l is) a →
    (∀ ls a', seqIB md l.toArray t ls = true → L a' → wpAnyH P md l.toArray Q S t.length ls a' w) → wpAnyH P md l.toArray Q S (is.length + t.length) listed a w
  | [], listed, a, _, hB, h, hL => by simpa using hL listed a (by simpa [headIB] using hB) h
  | k :: r, listed, a, hl, hB, h, hL => by
    have hk : k < l.length := hl k (by simp)
    have h0 : l.toArray[k]? = some l[k] := by simp [hk]
    have hp : pickI l (k :: r) = l[k] :: pickI l r := by rw [pickI, List.getElem?_eq_getElem hk]
    rw [hp] at h
    obtain ⟨v, hy, h⟩ := h
    simp only [headIB, Bool.and_eq_true] at hB
    obtain ⟨⟨hr, hf⟩, hB⟩ := hB
    rw [show (k :: r).length + t.length = (r.length + t.length) + 1 by simp; omega]
    exact wpAnyH_take h0 hsel hf hr (fun c a w => hQ c a w _ _) hy hS
      (held_lexI hsel hQ hS r _ _ (fun j hj => hl j (by simp [hj])) hB h hL)
def heldIB (ops : Array Oper) (hs ts : List Nat) : Bool := Region.noSelect ops && decide (hs.length + ts.length = ops.size) && (hs.all fun i => decide (i < ops.size)) && (ts.all fun i => decide (i < ops.size)) && headIB .any ops ts hs (Array.replicate ops.size false)
theorem wp_region_heldI {id : Nat} {a : Act} {w : World} (S : World → Prop) (hs ts : List Nat) (hm : P.follows .mixedOrders = true) (hB : heldIB l.toArray hs ts = true) (hQ1 : ∀ c (a : Act) w (i : Nat) v, Q (.panic c) (a.put (some i) v) w → Q (.panic c) a w) (hS : S w.drew)
    (h : HdS P l.toArray S (fun a' => SeqS P l.toArray S Q (pickI l ts) a' w.drew) (pickI l hs) a) : (Code.region id l.toArray true).wp P Q a w := by
  have hQ : ∀ c (a : Act) w d v, Q (.panic c) (a.put d v) w → Q (.panic c) a w := by
    intro c a w d v h
    cases d with
    | none => exact h
    | some i => exact hQ1 c a w i v h
  simp only [heldIB, Bool.and_eq_true, decide_eq_true_eq, List.all_eq_true, List.size_toArray] at hB
  obtain ⟨⟨⟨⟨hsel, hn⟩, hh⟩, ht⟩, hlex⟩ := hB
  refine wp_region_held (S := S) hm ?_
  have := held_lexI (md := .any) (t := ts) hsel hQ (w := w.drew) hS hs (Array.replicate l.length false) a hh hlex h.out
    (fun ls a' h1 h2 => seqS_anyI ts ls a' w.drew ht h1 h2.out)
  rw [hn] at this
  simpa using this
end
end Go.Proofs.YtobpkelblpdajaaGreatDoor
/- A region that draws its order and whose last operation waits for all others: S need not hold behind that one. -/
namespace Go.Proofs.YtobpkelblpdajaaGreatDoor
open Go Go.RowKit
section
variable {P : Program} {l : List Oper} {o : Oper} {Q : Exit → Act → World → Prop}
def lastQ (P : Program) (o : Oper) (Q : Exit → Act → World → Prop) : Exit → Act → World → Prop
  | .normal, a, w => o.wp P a w (fun a' w' => Q .normal a' w') Q
  | e, a, w => Q e a w
def lastB (l : List Oper) (o : Oper) : Bool :=
  o.guard.isNone && (o.after.toList.all fun e => decide (e.on < l.length)) && ((List.range l.length).all fun i => o.after.toList.any fun e => Region.binds .any e && decide (e.on = i)) &&
    ((List.range l.length).all fun i => match l[i]? with
      | none => true
      | some p => p.guard.isNone && p.after.toList.all fun e => decide (e.on < i))
theorem lastB_spec (h : lastB l o = true) : (o.guard = none ∧ ∀ e ∈ o.after.toList, e.on < l.length) ∧ (∀ i, i < l.length → ∃ e ∈ o.after.toList, Region.binds .any e = true ∧ e.on = i) ∧ ∀ (i : Nat) p, l[i]? = some p → p.guard = none ∧ ∀ e ∈ p.after.toList, e.on < i := by
  simp only [lastB, Bool.and_eq_true] at h
  obtain ⟨⟨⟨h1, h0⟩, h2⟩, h3⟩ := h
  refine ⟨⟨by simpa using h1, fun e he => of_decide_eq_true (List.all_eq_true.1 h0 e he)⟩, fun i hi => ?_, fun i p hp => ?_⟩
  · obtain ⟨e, he, h4⟩ := List.any_eq_true.1 (List.all_eq_true.1 h2 i (List.mem_range.2 hi))
    simp only [Bool.and_eq_true, decide_eq_true_eq] at h4
    exact ⟨e, he, h4.1, h4.2⟩
  · have := List.all_eq_true.1 h3 i (List.mem_range.2 (List.getElem?_eq_some_iff.1 hp).1)
    simp only [hp, Bool.and_eq_true] at this
    exact ⟨by simpa using this.1, fun e he => of_decide_eq_true (List.all_eq_true.1 this.2 e he)⟩
theorem wp_lastQ {x : Oper} {a : Act} {w : World} {K : Act → World → Prop} (h : x.wp P a w K (lastQ P o Q)) : x.wp P a w K Q := by
  unfold Oper.wp at *
  generalize (execOp a.eval x).run P w = r at *
  cases r with
  | ok n w' => cases n <;> simp only [Oper.upon] at h ⊢ <;> first
    | exact h
    | exact Calls.mono h (fun e w'' he => by cases e <;> exact he)
  | halt y w' => cases y <;> simp only [Oper.upon] at h ⊢ <;> exact h
theorem ready_iff {ops : Array Oper} {listed : Array Bool} {i : Nat} : i ∈ Region.ready .any ops listed ↔ ∃ x, ops[i]? = some x ∧ listed.getD i true = false ∧ ∀ e ∈ x.after.toList, Region.binds .any e = true → listed.getD e.on false = true := by
  unfold Region.ready
  rw [List.mem_filter, List.mem_range]
  constructor
  · rintro ⟨h1, h2⟩
    have ho : ops[i]? = some ops[i] := Array.getElem?_eq_getElem h1
    rw [ho] at h2
    simp only [Option.map_some, Option.getD_some, Bool.and_eq_true] at h2
    refine ⟨_, ho, by simpa using h2.1, fun e he hb => ?_⟩
    have := (Array.all_eq_true'.1 h2.2) e (by simpa using he)
    rw [hb] at this
    simpa using this
  · rintro ⟨x, hx, h1, h2⟩
    refine ⟨(Array.getElem?_eq_some_iff.1 hx).1, ?_⟩
    rw [hx]
    simp only [Option.map_some, Option.getD_some, Bool.and_eq_true]
    refine ⟨by rw [h1]; rfl, ?_⟩
    rw [Array.all_eq_true']
    intro e he
    cases hb : Region.binds .any e with
    | false => rfl
    | true => simpa using h2 e (by simpa using he) hb
theorem push_getD {listed : Array Bool} {i : Nat} {d : Bool} (h : i < listed.size) : (listed.push false).getD i d = listed.getD i d := by
  rw [Array.getD_eq_getD_getElem?, Array.getD_eq_getD_getElem?, Array.getElem?_push, if_neg (by omega)]
theorem ready_sub (hB : lastB l o = true) {listed : Array Bool} (hs : listed.size = l.length) {i : Nat} (hi : i < l.length) : i ∈ Region.ready .any (l ++ [o]).toArray (listed.push false) ↔ i ∈ Region.ready .any l.toArray listed := by
  obtain ⟨_, _, h3⟩ := lastB_spec hB
  rw [ready_iff, ready_iff]
  have hx : ∀ x, (l ++ [o]).toArray[i]? = some x ↔ l.toArray[i]? = some x := fun x => by simp [List.getElem?_append_left hi]
  constructor
  · rintro ⟨x, h1, h2, h4⟩
    have h1' := (hx x).1 h1
    refine ⟨x, h1', by rwa [push_getD (by omega)] at h2, fun e he hb => ?_⟩
    have := h4 e he hb
    have hlt := (h3 i x (by simpa using h1')).2 e he
    rwa [push_getD (by omega)] at this
  · rintro ⟨x, h1, h2, h4⟩
    refine ⟨x, (hx x).2 h1, by rwa [push_getD (by omega)], fun e he hb => ?_⟩
    have hlt := (h3 i x (by simpa using h1)).2 e he
    rw [push_getD (by omega)]
    exact h4 e he hb
theorem last_ready (hB : lastB l o = true) {listed : Array Bool} (hs : listed.size = l.length) (h : ∀ i, i < l.length → listed.getD i false = true) : l.length ∈ Region.ready .any (l ++ [o]).toArray (listed.push false) := by
  obtain ⟨⟨_, h2⟩, _, _⟩ := lastB_spec hB
  rw [ready_iff]
  refine ⟨o, by simp, by rw [Array.getD_eq_getD_getElem?, Array.getElem?_push, if_pos (by omega)]; rfl, fun e he _ => ?_⟩
  have := h2 e he
  rw [push_getD (by omega)]
  exact h e.on this
theorem last_all (hB : lastB l o = true) {listed : Array Bool} (hs : listed.size = l.length) (h : l.length ∈ Region.ready .any (l ++ [o]).toArray (listed.push false)) : ∀ i, i < l.length → listed.getD i false = true := by
  obtain ⟨_, h2, _⟩ := lastB_spec hB
  intro i hi
  obtain ⟨x, hx, _, h3⟩ := ready_iff.1 h
  obtain rfl : o = x := by simpa using hx
  obtain ⟨e, he, hb, hon⟩ := h2 i hi
  have := h3 e he hb
  rw [hon, push_getD (by omega)] at this
  exact this
theorem none_all (hB : lastB l o = true) {listed : Array Bool} (hs : listed.size = l.length) (h : Region.ready .any l.toArray listed = []) : ∀ i, i < l.length → listed.getD i false = true := by
  obtain ⟨_, _, h3⟩ := lastB_spec hB
  intro i
  induction i using Nat.strongRecOn with
  | _ i ih =>
    intro hi
    cases hl : listed.getD i false with
    | true => rfl
    | false =>
      exfalso
      have : i ∈ Region.ready .any l.toArray listed := by
        refine ready_iff.2 ⟨l[i], by simp [hi], ?_, fun e he _ => ?_⟩
        · have h4 : i < listed.size := by omega
          simp only [Array.getD, h4, dif_pos] at hl ⊢
          exact hl
        · have hlt := (h3 i _ (List.getElem?_eq_getElem hi)).2 e he
          exact ih e.on hlt (by omega)
      rw [h] at this
      cases this
theorem all_none (hB : lastB l o = true) {listed : Array Bool} (hs : listed.size = l.length) (h : ∀ i, i < l.length → listed.getD i false = true) : Region.ready .any l.toArray listed = [] := by
  cases hr : Region.ready .any l.toArray listed with
  | nil => rfl
  | cons i r =>
    have : i ∈ Region.ready .any l.toArray listed := by rw [hr]; simp
    obtain ⟨x, hx, h2, _⟩ := ready_iff.1 this
    have hi : i < l.length := by simpa using (Array.getElem?_eq_some_iff.1 hx).1
    have := h i hi
    have h4 : i < listed.size := by omega
    simp only [Array.getD, h4, dif_pos] at h2 this
    rw [h2] at this; cases this
theorem done_none {listed : Array Bool} (hs : listed.size = l.length) (h : ∀ i, i < l.length → listed.getD i false = true) : Region.ready .any (l ++ [o]).toArray ((listed.push false).setIfInBounds l.length true) = [] := by
  cases hr : Region.ready .any (l ++ [o]).toArray ((listed.push false).setIfInBounds l.length true) with
  | nil => rfl
  | cons i r =>
    have : i ∈ Region.ready .any (l ++ [o]).toArray ((listed.push false).setIfInBounds l.length true) := by rw [hr]; simp
    obtain ⟨x, hx, h2, _⟩ := ready_iff.1 this
    have hi : i < l.length + 1 := by simpa using (Array.getElem?_eq_some_iff.1 hx).1
    by_cases e : i = l.length
    · subst e
      rw [Array.getD_eq_getD_getElem?, Array.getElem?_setIfInBounds, if_pos rfl, if_pos (by simp; omega)] at h2
      cases h2
    · rw [Array.getD_eq_getD_getElem?, Array.getElem?_setIfInBounds_ne (by omega), ← Array.getD_eq_getD_getElem?, push_getD (by omega)] at h2
      have := h i (by omega)
      have h4 : i < listed.size := by omega
      simp only [Array.getD, h4, dif_pos] at h2 this
      rw [h2] at this; cases this
theorem last_op (hB : lastB l o = true) {listed : Array Bool} {a : Act} {w : World} (hs : listed.size = l.length) (h : ∀ i, i < l.length → listed.getD i false = true) (hQ : lastQ P o Q .normal a w) (fuel : Nat) :
    wpOp P (l ++ [o]).toArray Q l.length (wpAny P .any (l ++ [o]).toArray Q fuel ((listed.push false).setIfInBounds l.length true)) a w := by
  obtain ⟨⟨hg, _⟩, _, _⟩ := lastB_spec hB
  have ho : (l ++ [o]).toArray[l.length]? = some o := by simp
  unfold wpOp
  simp only [ho]
  rw [if_pos (by simp [Region.wanted, hg])]
  refine .inl (Oper.wp_mono (fun a' w' h' => ?_) hQ)
  have hd := done_none (o := o) hs h
  cases fuel with
  | zero => exact ⟨hd, h'⟩
  | succ fuel => exact ⟨fun _ => h', by rw [hd]; simp⟩
theorem peel (hB : lastB l o = true) : ∀ (fuel : Nat) (listed : Array Bool) (a : Act) (w : World), listed.size = l.length → wpAny P .any l.toArray (lastQ P o Q) fuel listed a w → wpAny P .any (l ++ [o]).toArray Q (fuel + 1) (listed.push false) a w := by
  intro fuel
  induction fuel with
  | zero =>
    intro listed a w hs h
    have hall := none_all hB hs h.1
    refine ⟨fun hr => ?_, fun i hi => ?_⟩
    · have := last_ready hB hs hall; rw [hr] at this; cases this
    · by_cases e : i = l.length
      · subst e; exact last_op hB hs hall h.2 0
      · obtain ⟨x, hx, _⟩ := ready_iff.1 hi
        have hlt : i < l.length := by have := (Array.getElem?_eq_some_iff.1 hx).1; simp at this; omega
        have := (ready_sub hB hs hlt).1 hi
        rw [h.1] at this; cases this
  | succ fuel ih =>
    intro listed a w hs h
    refine ⟨fun hr => ?_, fun i hi => ?_⟩
    · have hr1 : Region.ready .any l.toArray listed = [] := by
        cases hq : Region.ready .any l.toArray listed with
        | nil => rfl
        | cons i r =>
          have hm : i ∈ Region.ready .any l.toArray listed := by rw [hq]; simp
          obtain ⟨x, hx, _⟩ := ready_iff.1 hm
          have hlt : i < l.length := by simpa using (Array.getElem?_eq_some_iff.1 hx).1
          have := (ready_sub hB hs hlt).2 hm
          rw [hr] at this; cases this
      have := last_ready hB hs (none_all hB hs hr1); rw [hr] at this; cases this
    · by_cases e : i = l.length
      · subst e
        have hall := last_all hB hs hi
        exact last_op hB hs hall (h.1 (all_none hB hs hall)) (fuel + 1)
      · obtain ⟨x, hx, _⟩ := ready_iff.1 hi
        have hlt : i < l.length := by have := (Array.getElem?_eq_some_iff.1 hx).1; simp at this; omega
        have h1 := h.2 i ((ready_sub hB hs hlt).1 hi)
        have ho1 : l.toArray[i]? = some l[i] := by simp [hlt]
        have ho2 : (l ++ [o]).toArray[i]? = some l[i] := by simp [List.getElem?_append_left hlt]
        obtain ⟨_, _, h3⟩ := lastB_spec hB
        have hg := (h3 i _ (List.getElem?_eq_getElem hlt)).1
        unfold wpOp at h1 ⊢
        simp only [ho1] at h1
        simp only [ho2]
        rw [if_pos (by simp [Region.wanted, hg])] at h1 ⊢
        have hset : (listed.push false).setIfInBounds i true = (listed.setIfInBounds i true).push false := by
          apply Array.ext_getElem?
          intro k
          rw [Array.getElem?_setIfInBounds, Array.getElem?_push, Array.getElem?_push, Array.getElem?_setIfInBounds]
          simp only [Array.size_push, Array.size_setIfInBounds]
          by_cases hk : i = k
          · subst hk
            rw [if_pos rfl, if_pos (by omega), if_neg (by omega), if_pos rfl, if_pos (by omega)]
          · rw [if_neg hk, if_neg hk]
        rcases h1 with h1 | ⟨h1, b, v, h2⟩
        · refine .inl (Oper.wp_mono (fun a' w' h' => ?_) (wp_lastQ h1))
          rw [hset]
          exact ih _ a' w' (by simpa using hs) h'
        · exact .inr ⟨h1, b, v, h2⟩
theorem wp_region_heldL {full : List Oper} {id : Nat} {a : Act} {w : World} (S : World → Prop) (k : Nat) (hs ts : List Nat) (hm : P.follows .mixedOrders = true) (hk : full[k]? = some o) (hfl : full.length = k + 1) (hL : lastB (full.take k) o = true) (hB : heldIB (full.take k).toArray hs ts = true) (hQ1 : ∀ c (a : Act) w (i : Nat) v, Q (.panic c) (a.put (some i) v) w → Q (.panic c) a w) (hS : S w.drew)
    (h : HdS P (full.take k).toArray S (fun a' => SeqS P (full.take k).toArray S (lastQ P o Q) (pickI (full.take k) ts) a' w.drew) (pickI (full.take k) hs) a) : (Code.region id full.toArray true).wp P Q a w := by
  have hfull : full = full.take k ++ [o] := by
    have h1 : full.drop k = [o] := by
      have := (List.getElem?_eq_some_iff.1 hk)
      obtain ⟨h2, h3⟩ := this
      rw [List.drop_eq_getElem_cons h2, h3, List.drop_eq_nil_of_le (by omega)]
    calc full = full.take k ++ full.drop k := (List.take_append_drop k full).symm
      _ = _ := by rw [h1]
  generalize full.take k = l at *
  subst hfull
  have hQ : ∀ c a w d v, lastQ P o Q (.panic c) (a.put d v) w → lastQ P o Q (.panic c) a w := by
    intro c a w d v h
    cases d with
    | none => exact h
    | some i => exact hQ1 c a w i v h
  simp only [heldIB, Bool.and_eq_true, decide_eq_true_eq, List.all_eq_true, List.size_toArray] at hB
  obtain ⟨⟨⟨⟨hsel, hn⟩, hh⟩, ht⟩, hlex⟩ := hB
  refine wp_region_any hm ?_
  have := held_lexI (md := .any) (t := ts) hsel hQ (w := w.drew) hS hs (Array.replicate l.length false) a hh hlex h.out
    (fun ls a' h1 h2 => seqS_anyI ts ls a' w.drew ht h1 h2.out)
  rw [hn] at this
  have h2 := peel hL l.length (Array.replicate l.length false) a w.drew (by simp) (wpAny_of_held _ _ _ _ this)
  have e : (Array.replicate l.length false).push false = Array.replicate ((l ++ [o]).toArray.size) false := by
    apply Array.ext_getElem?
    intro j
    rw [Array.getElem?_push]
    simp only [Array.size_replicate, Array.getElem?_replicate, List.size_toArray, List.length_append, List.length_singleton]
    by_cases hj : j = l.length
    · subst hj; simp
    · rw [if_neg hj]; by_cases h3 : j < l.length
      · rw [if_pos h3, if_pos (by omega)]
      · rw [if_neg h3, if_neg (by omega)]
  rw [e] at h2
  have e2 : (l ++ [o]).toArray.size = l.length + 1 := by simp
  rw [e2] at h2 ⊢
  exact h2
end
end Go.Proofs.YtobpkelblpdajaaGreatDoor
