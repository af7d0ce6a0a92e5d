/- A region that draws its order and whose last operation waits for all others: S need not hold behind that one. -/
import Derived.Test.YtobpkelblpdajaaGreatDoorTX36
import Derived.Test.YtobpkelblpdajaaGreatDoorTX40
set_option linter.unusedVariables false
set_option linter.unusedSimpArgs false
set_option linter.unusedSectionVars false
namespace Go.Proofs.YtobpkelblpdajaaGreatDoor
open Go Go.RowKit
section
variable {P : Program} {l : List Oper} {o : Oper} {Q : Exit → Act → World → Prop}
def lastQ (P : Program) (o : Oper) (Q : Exit → Act → World → Prop) : Exit → Act → World → Prop
  | .normal, a, w => o.wp P a w (fun a' w' => Q .normal a' w') Q
  | e, a, w => Q e a w
def lastB (l : List Oper) (o : Oper) : Bool :=
  o.guard.isNone && (o.after.toList.all fun e => decide (e.on < l.length)) && ((List.range l.length).all fun i => o.after.toList.any fun e => Region.binds .any e && decide (e.on = i)) &&
    ((List.range l.length).all fun i => match l[i]? with
      | none => true
      | some p => p.guard.isNone && p.after.toList.all fun e => decide (e.on < i))
theorem lastB_spec (h : lastB l o = true) : (o.guard = none ∧ ∀ e ∈ o.after.toList, e.on < l.length) ∧ (∀ i, i < l.length → ∃ e ∈ o.after.toList, Region.binds .any e = true ∧ e.on = i) ∧ ∀ (i : Nat) p, l[i]? = some p → p.guard = none ∧ ∀ e ∈ p.after.toList, e.on < i := by
  simp only [lastB, Bool.and_eq_true] at h
  obtain ⟨⟨⟨h1, h0⟩, h2⟩, h3⟩ := h
  refine ⟨⟨by simpa using h1, fun e he => of_decide_eq_true (List.all_eq_true.1 h0 e he)⟩, fun i hi => ?_, fun i p hp => ?_⟩
  · obtain ⟨e, he, h4⟩ := List.any_eq_true.1 (List.all_eq_true.1 h2 i (List.mem_range.2 hi))
    simp only [Bool.and_eq_true, decide_eq_true_eq] at h4
    exact ⟨e, he, h4.1, h4.2⟩
  · have := List.all_eq_true.1 h3 i (List.mem_range.2 (List.getElem?_eq_some_iff.1 hp).1)
    simp only [hp, Bool.and_eq_true] at this
    exact ⟨by simpa using this.1, fun e he => of_decide_eq_true (List.all_eq_true.1 this.2 e he)⟩
theorem wp_lastQ {x : Oper} {a : Act} {w : World} {K : Act → World → Prop} (h : x.wp P a w K (lastQ P o Q)) : x.wp P a w K Q := by
  unfold Oper.wp at *
  generalize (execOp a.eval x).run P w = r at *
  cases r with
  | ok n w' => cases n <;> simp only [Oper.upon] at h ⊢ <;> first
    | exact h
    | exact Calls.mono h (fun e w'' he => by cases e <;> exact he)
  | halt y w' => cases y <;> simp only [Oper.upon] at h ⊢ <;> exact h
theorem ready_iff {ops : Array Oper} {listed : Array Bool} {i : Nat} : i ∈ Region.ready .any ops listed ↔ ∃ x, ops[i]? = some x ∧ listed.getD i true = false ∧ ∀ e ∈ x.after.toList, Region.binds .any e = true → listed.getD e.on false = true := by
  unfold Region.ready
  rw [List.mem_filter, List.mem_range]
  constructor
  · rintro ⟨h1, h2⟩
    have ho : ops[i]? = some ops[i] := Array.getElem?_eq_getElem h1
    rw [ho] at h2
    simp only [Option.map_some, Option.getD_some, Bool.and_eq_true] at h2
    refine ⟨_, ho, by simpa using h2.1, fun e he hb => ?_⟩
    have := (Array.all_eq_true'.1 h2.2) e (by simpa using he)
    rw [hb] at this
    simpa using this
  · rintro ⟨x, hx, h1, h2⟩
    refine ⟨(Array.getElem?_eq_some_iff.1 hx).1, ?_⟩
    rw [hx]
    simp only [Option.map_some, Option.getD_some, Bool.and_eq_true]
    refine ⟨by rw [h1]; rfl, ?_⟩
    rw [Array.all_eq_true']
    intro e he
    cases hb : Region.binds .any e with
    | false => rfl
    | true => simpa using h2 e (by simpa using he) hb
theorem push_getD {listed : Array Bool} {i : Nat} {d : Bool} (h : i < listed.size) : (listed.push false).getD i d = listed.getD i d := by
  rw [Array.getD_eq_getD_getElem?, Array.getD_eq_getD_getElem?, Array.getElem?_push, if_neg (by omega)]
theorem ready_sub (hB : lastB l o = true) {listed : Array Bool} (hs : listed.size = l.length) {i : Nat} (hi : i < l.length) : i ∈ Region.ready .any (l ++ [o]).toArray (listed.push false) ↔ i ∈ Region.ready .any l.toArray listed := by
  obtain ⟨_, _, h3⟩ := lastB_spec hB
  rw [ready_iff, ready_iff]
  have hx : ∀ x, (l ++ [o]).toArray[i]? = some x ↔ l.toArray[i]? = some x := fun x => by simp [List.getElem?_append_left hi]
  constructor
  · rintro ⟨x, h1, h2, h4⟩
    have h1' := (hx x).1 h1
    refine ⟨x, h1', by rwa [push_getD (by omega)] at h2, fun e he hb => ?_⟩
    have := h4 e he hb
    have hlt := (h3 i x (by simpa using h1')).2 e he
    rwa [push_getD (by omega)] at this
  · rintro ⟨x, h1, h2, h4⟩
    refine ⟨x, (hx x).2 h1, by rwa [push_getD (by omega)], fun e he hb => ?_⟩
    have hlt := (h3 i x (by simpa using h1)).2 e he
    rw [push_getD (by omega)]
    exact h4 e he hb
theorem last_ready (hB : lastB l o = true) {listed : Array Bool} (hs : listed.size = l.length) (h : ∀ i, i < l.length → listed.getD i false = true) : l.length ∈ Region.ready .any (l ++ [o]).toArray (listed.push false) := by
  obtain ⟨⟨_, h2⟩, _, _⟩ := lastB_spec hB
  rw [ready_iff]
  refine ⟨o, by simp, by rw [Array.getD_eq_getD_getElem?, Array.getElem?_push, if_pos (by omega)]; rfl, fun e he _ => ?_⟩
  have := h2 e he
  rw [push_getD (by omega)]
  exact h e.on this
theorem last_all (hB : lastB l o = true) {listed : Array Bool} (hs : listed.size = l.length) (h : l.length ∈ Region.ready .any (l ++ [o]).toArray (listed.push false)) : ∀ i, i < l.length → listed.getD i false = true := by
  obtain ⟨_, h2, _⟩ := lastB_spec hB
  intro i hi
  obtain ⟨x, hx, _, h3⟩ := ready_iff.1 h
  obtain rfl : o = x := by simpa using hx
  obtain ⟨e, he, hb, hon⟩ := h2 i hi
  have := h3 e he hb
  rw [hon, push_getD (by omega)] at this
  exact this
theorem none_all (hB : lastB l o = true) {listed : Array Bool} (hs : listed.size = l.length) (h : Region.ready .any l.toArray listed = []) : ∀ i, i < l.length → listed.getD i false = true := by
  obtain ⟨_, _, h3⟩ := lastB_spec hB
  intro i
  induction i using Nat.strongRecOn with
  | _ i ih =>
    intro hi
    cases hl : listed.getD i false with
    | true => rfl
    | false =>
      exfalso
      have : i ∈ Region.ready .any l.toArray listed := by
        refine ready_iff.2 ⟨l[i], by simp [hi], ?_, fun e he _ => ?_⟩
        · have h4 : i < listed.size := by omega
          simp only [Array.getD, h4, dif_pos] at hl ⊢
          exact hl
        · have hlt := (h3 i _ (List.getElem?_eq_getElem hi)).2 e he
          exact ih e.on hlt (by omega)
      rw [h] at this
      cases this
theorem all_none (hB : lastB l o = true) {listed : Array Bool} (hs : listed.size = l.length) (h : ∀ i, i < l.length → listed.getD i false = true) : Region.ready .any l.toArray listed = [] := by
  cases hr : Region.ready .any l.toArray listed with
  | nil => rfl
  | cons i r =>
    have : i ∈ Region.ready .any l.toArray listed := by rw [hr]; simp
    obtain ⟨x, hx, h2, _⟩ := ready_iff.1 this
    have hi : i < l.length := by simpa using (Array.getElem?_eq_some_iff.1 hx).1
    have := h i hi
    have h4 : i < listed.size := by omega
    simp only [Array.getD, h4, dif_pos] at h2 this
    rw [h2] at this; cases this
theorem done_none {listed : Array Bool} (hs : listed.size = l.length) (h : ∀ i, i < l.length → listed.getD i false = true) : Region.ready .any (l ++ [o]).toArray ((listed.push false).setIfInBounds l.length true) = [] := by
  cases hr : Region.ready .any (l ++ [o]).toArray ((listed.push false).setIfInBounds l.length true) with
  | nil => rfl
  | cons i r =>
    have : i ∈ Region.ready .any (l ++ [o]).toArray ((listed.push false).setIfInBounds l.length true) := by rw [hr]; simp
    obtain ⟨x, hx, h2, _⟩ := ready_iff.1 this
    have hi : i < l.length + 1 := by simpa using (Array.getElem?_eq_some_iff.1 hx).1
    by_cases e : i = l.length
    · subst e
      rw [Array.getD_eq_getD_getElem?, Array.getElem?_setIfInBounds, if_pos rfl, if_pos (by simp; omega)] at h2
      cases h2
    · rw [Array.getD_eq_getD_getElem?, Array.getElem?_setIfInBounds_ne (by omega), ← Array.getD_eq_getD_getElem?, push_getD (by omega)] at h2
      have := h i (by omega)
      have h4 : i < listed.size := by omega
      simp only [Array.getD, h4, dif_pos] at h2 this
      rw [h2] at this; cases this
theorem last_op (hB : lastB l o = true) {listed : Array Bool} {a : Act} {w : World} (hs : listed.size = l.length) (h : ∀ i, i < l.length → listed.getD i false = true) (hQ : lastQ P o Q .normal a w) (fuel : Nat) :
    wpOp P (l ++ [o]).toArray Q l.length (wpAny P .any (l ++ [o]).toArray Q fuel ((listed.push false).setIfInBounds l.length true)) a w := by
  obtain ⟨⟨hg, _⟩, _, _⟩ := lastB_spec hB
  have ho : (l ++ [o]).toArray[l.length]? = some o := by simp
  unfold wpOp
  simp only [ho]
  rw [if_pos (by simp [Region.wanted, hg])]
  refine .inl (Oper.wp_mono (fun a' w' h' => ?_) hQ)
  have hd := done_none (o := o) hs h
  cases fuel with
  | zero => exact ⟨hd, h'⟩
  | succ fuel => exact ⟨fun _ => h', by rw [hd]; simp⟩
theorem peel (hB : lastB l o = true) : ∀ (fuel : Nat) (listed : Array Bool) (a : Act) (w : World), listed.size = l.length → wpAny P .any l.toArray (lastQ P o Q) fuel listed a w → wpAny P .any (l ++ [o]).toArray Q (fuel + 1) (listed.push false) a w := by
  intro fuel
  induction fuel with
  | zero =>
    intro listed a w hs h
    have hall := none_all hB hs h.1
    refine ⟨fun hr => ?_, fun i hi => ?_⟩
    · have := last_ready hB hs hall; rw [hr] at this; cases this
    · by_cases e : i = l.length
      · subst e; exact last_op hB hs hall h.2 0
      · obtain ⟨x, hx, _⟩ := ready_iff.1 hi
        have hlt : i < l.length := by have := (Array.getElem?_eq_some_iff.1 hx).1; simp at this; omega
        have := (ready_sub hB hs hlt).1 hi
        rw [h.1] at this; cases this
  | succ fuel ih =>
    intro listed a w hs h
    refine ⟨fun hr => ?_, fun i hi => ?_⟩
    · have hr1 : Region.ready .any l.toArray listed = [] := by
        cases hq : Region.ready .any l.toArray listed with
        | nil => rfl
        | cons i r =>
          have hm : i ∈ Region.ready .any l.toArray listed := by rw [hq]; simp
          obtain ⟨x, hx, _⟩ := ready_iff.1 hm
          have hlt : i < l.length := by simpa using (Array.getElem?_eq_some_iff.1 hx).1
          have := (ready_sub hB hs hlt).2 hm
          rw [hr] at this; cases this
      have := last_ready hB hs (none_all hB hs hr1); rw [hr] at this; cases this
    · by_cases e : i = l.length
      · subst e
        have hall := last_all hB hs hi
        exact last_op hB hs hall (h.1 (all_none hB hs hall)) (fuel + 1)
      · obtain ⟨x, hx, _⟩ := ready_iff.1 hi
        have hlt : i < l.length := by have := (Array.getElem?_eq_some_iff.1 hx).1; simp at this; omega
        have h1 := h.2 i ((ready_sub hB hs hlt).1 hi)
        have ho1 : l.toArray[i]? = some l[i] := by simp [hlt]
        have ho2 : (l ++ [o]).toArray[i]? = some l[i] := by simp [List.getElem?_append_left hlt]
        obtain ⟨_, _, h3⟩ := lastB_spec hB
        have hg := (h3 i _ (List.getElem?_eq_getElem hlt)).1
        unfold wpOp at h1 ⊢
        simp only [ho1] at h1
        simp only [ho2]
        rw [if_pos (by simp [Region.wanted, hg])] at h1 ⊢
        have hset : (listed.push false).setIfInBounds i true = (listed.setIfInBounds i true).push false := by
          apply Array.ext_getElem?
          intro k
          rw [Array.getElem?_setIfInBounds, Array.getElem?_push, Array.getElem?_push, Array.getElem?_setIfInBounds]
          simp only [Array.size_push, Array.size_setIfInBounds]
          by_cases hk : i = k
          · subst hk
            rw [if_pos rfl, if_pos (by omega), if_neg (by omega), if_pos rfl, if_pos (by omega)]
          · rw [if_neg hk, if_neg hk]
        rcases h1 with h1 | ⟨h1, b, v, h2⟩
        · refine .inl (Oper.wp_mono (fun a' w' h' => ?_) (wp_lastQ h1))
          rw [hset]
          exact ih _ a' w' (by simpa using hs) h'
        · exact .inr ⟨h1, b, v, h2⟩
theorem wp_region_heldL {full : List Oper} {id : Nat} {a : Act} {w : World} (S : World → Prop) (k : Nat) (hs ts : List Nat) (hm : P.follows .mixedOrders = true) (hk : full[k]? = some o) (hfl : full.length = k + 1) (hL : lastB (full.take k) o = true) (hB : heldIB (full.take k).toArray hs ts = true) (hQ1 : ∀ c (a : Act) w (i : Nat) v, Q (.panic c) (a.put (some i) v) w → Q (.panic c) a w) (hS : S w.drew)
    (h : HdS P (full.take k).toArray S (fun a' => SeqS P (full.take k).toArray S (lastQ P o Q) (pickI (full.take k) ts) a' w.drew) (pickI (full.take k) hs) a) : (Code.region id full.toArray true).wp P Q a w := by
  have hfull : full = full.take k ++ [o] := by
    have h1 : full.drop k = [o] := by
      have := (List.getElem?_eq_some_iff.1 hk)
      obtain ⟨h2, h3⟩ := this
      rw [List.drop_eq_getElem_cons h2, h3, List.drop_eq_nil_of_le (by omega)]
    calc full = full.take k ++ full.drop k := (List.take_append_drop k full).symm
      _ = _ := by rw [h1]
  generalize full.take k = l at *
  subst hfull
  have hQ : ∀ c a w d v, lastQ P o Q (.panic c) (a.put d v) w → lastQ P o Q (.panic c) a w := by
    intro c a w d v h
    cases d with
    | none => exact h
    | some i => exact hQ1 c a w i v h
  simp only [heldIB, Bool.and_eq_true, decide_eq_true_eq, List.all_eq_true, List.size_toArray] at hB
  obtain ⟨⟨⟨⟨hsel, hn⟩, hh⟩, ht⟩, hlex⟩ := hB
  refine wp_region_any hm ?_
  have := held_lexI (md := .any) (t := ts) hsel hQ (w := w.drew) hS hs (Array.replicate l.length false) a hh hlex h.out
    (fun ls a' h1 h2 => seqS_anyI ts ls a' w.drew ht h1 h2.out)
  rw [hn] at this
  have h2 := peel hL l.length (Array.replicate l.length false) a w.drew (by simp) (wpAny_of_held _ _ _ _ this)
  have e : (Array.replicate l.length false).push false = Array.replicate ((l ++ [o]).toArray.size) false := by
    apply Array.ext_getElem?
    intro j
    rw [Array.getElem?_push]
    simp only [Array.size_replicate, Array.getElem?_replicate, List.size_toArray, List.length_append, List.length_singleton]
    by_cases hj : j = l.length
    · subst hj; simp
    · rw [if_neg hj]; by_cases h3 : j < l.length
      · rw [if_pos h3, if_pos (by omega)]
      · rw [if_neg h3, if_neg (by omega)]
  rw [e] at h2
  have e2 : (l ++ [o]).toArray.size = l.length + 1 := by simp
  rw [e2] at h2 ⊢
  exact h2
end
end Go.Proofs.YtobpkelblpdajaaGreatDoor
/- Walk: the parser: one thing of a list. -/
namespace Go.Proofs.YtobpkelblpdajaaGreatDoor
open Go Go.RowKit
theorem own_kindV {w : World} {B : Nat} {e : TypeId} {size n : Nat} {xs : List Value} {v : Value} (h : w.ownsRow B e size v n xs) : ∀ g, v.ownBlock = some g → ∃ c fz, w.heap[g]? = some (.cells c e fz) := by
  intro g hg
  rcases h.2 with ⟨rfl, _⟩ | ⟨g', cap, cur, rfl, _, hgg, _⟩
  · simp [Value.ownBlock] at hg
  · simp [Value.ownBlock] at hg
    subst hg
    exact ⟨cur, (0, 0), hgg⟩
theorem not_own {w : World} {B : Nat} {e t : TypeId} {size n k : Nat} {xs : List Value} {v : Value} {c : Array Value} {fz : Nat × Nat} (h : w.ownsRow B e size v n xs) (hk : w.heap[k]? = some (.cells c t fz)) (hne : t ≠ e) : v.ownBlock ≠ some k := fun hv => by
  obtain ⟨c2, f2, h2⟩ := own_kindV h k hv
  rw [hk] at h2
  injection h2 with h2
  injection h2 with _ h2 _
  exact hne h2
theorem OwnV.pside {F : Nat → Prop} {w w2 : World} {B bp : Nat} {v : Value} {l : List V} (h : OwnV F w B v l) (hp : Pside bp w w2) (hb : bp < B) (hF : ∀ b, F b → b ≠ bp) : OwnV F w2 B v l := by
  obtain ⟨xs, ho, hx⟩ := h
  refine ⟨xs, World.ownsRow.kept ho (row := some bp) ⟨hp.os, hp.tape, hp.output, hp.size, fun k hk hn => hp.block k hk (fun e => hn (by rw [e]))⟩ (Or.inr (fun e => by have := (World.ownsRow.lt ho bp e).1; omega)), fun i x hi => ?_⟩
  obtain ⟨u, hu, hr⟩ := hx i x hi
  exact ⟨u, hu, RdS.more (fun b hb' => ⟨hb'.1, Nat.lt_of_lt_of_le hb'.2.1 hp.size, hb'.2.2⟩) _ _ (RdS.keep (fun p hp2 => hp.cell hp2.2.1 (hF _ hp2.1)) _ _ hr)⟩
theorem OwnV.set {F : Nat → Prop} {w : World} {B k o : Nat} {v u : Value} {l : List V} (h : OwnV F w B v l) (hne : v.ownBlock ≠ some k) (hF : ∀ b, F b → b ≠ k) : OwnV F (w.setCell ⟨k, o, none⟩ u) B v l := by
  obtain ⟨xs, ho, hx⟩ := h
  have hb : Below k w (w.setCell ⟨k, o, none⟩ u) := (Below.refl k w).setCell (p := ⟨k, o, none⟩) (Nat.le_refl _) u
  have hp : Pside k w (w.setCell ⟨k, o, none⟩ u) := (Pside.refl k w).set o u
  refine ⟨xs, World.ownsRow.kept ho (row := some k) ⟨hp.os, hp.tape, hp.output, hp.size, fun j hj hn => hp.block j hj (fun e => hn (by rw [e]))⟩ (Or.inr hne), fun i x hi => ?_⟩
  obtain ⟨y, hy, hr⟩ := hx i x hi
  exact ⟨y, hy, RdS.more (fun b hb' => ⟨hb'.1, Nat.lt_of_lt_of_le hb'.2.1 hp.size, hb'.2.2⟩) _ _ (RdS.keep (fun p hp2 => hp.cell hp2.2.1 (hF _ hp2.1)) _ _ hr)⟩
theorem Pside.setNew {bp k : Nat} {a w : World} (h : Pside bp a w) (hk : a.heap.size ≤ k) (o : Nat) (u : Value) : Pside bp a (w.setCell ⟨k, o, none⟩ u) :=
  ⟨h.os, h.tape, h.output, by simpa [World.setCell] using h.size, fun i hi hn => (Below.heap_setCell w ⟨k, o, none⟩ u i (by simp; omega)).trans (h.block i hi hn)⟩
/- A list that is being read. -/
structure LSt (w0 w : World) (bp cp lc cd dp : Nat) (acc : List V) : Prop where
  fr : Pside bp w0 w
  hcp : w.heap[cp]? = some (.cells #[.pointer (some ⟨bp, 0, none⟩)] 166 (0, 0))
  hcd : w.heap[cd]? = some (.cells #[.int .i64 dp] 3 (0, 0))
  hl : ∃ v, w.heap[lc]? = some (.cells #[v] 43 (0, 0)) ∧ OwnV (fun b => lc < b) w w0.heap.size v acc
  o1 : w0.heap.size ≤ cp ∧ cp < lc
  o2 : w0.heap.size ≤ cd ∧ cd < lc
  o3 : bp < w0.heap.size
theorem LSt.pside {w0 w w2 : World} {bp cp lc cd dp : Nat} {acc : List V} (h : LSt w0 w bp cp lc cd dp acc) (hp : Pside bp w w2) : LSt w0 w2 bp cp lc cd dp acc := by
  obtain ⟨fr, hcp, hcd, ⟨v, hl, ho⟩, o1, o2, o3⟩ := h
  have lt := fun {k : Nat} {o : Obj} (hk : w.heap[k]? = some o) => (Array.getElem?_eq_some_iff.1 hk).1
  exact ⟨fr.trans hp, (hp.block cp (lt hcp) (by omega)).trans hcp, (hp.block cd (lt hcd) (by omega)).trans hcd, ⟨v, (hp.block lc (lt hl) (by omega)).trans hl, ho.pside hp o3 (fun b hb e => by subst e; omega)⟩, o1, o2, o3⟩
def KeepL (bp cp lc cd dp : Nat) (v : Value) (W : World) : Prop := W.heap[cp]? = some (.cells #[.pointer (some ⟨bp, 0, none⟩)] 166 (0, 0)) ∧ W.heap[cd]? = some (.cells #[.int .i64 dp] 3 (0, 0)) ∧ W.heap[lc]? = some (.cells #[v] 43 (0, 0))
def L1Post (w0 : World) (bp cp lc cd dp : Nat) (s : ByteArray) (acc : List V) (r : Rd1) (w : World) (e : Ending) (w' : World) : Prop := match r with
  | .error (a, why) => e = .panicked [{ v := pfaultV a why, recovered := false }] ∧ Pside bp w0 w'
  | .ok (x, q, n) => e = .returned (.tuple #[]) ∧ LSt w0 w' bp cp lc cd dp (acc ++ [x]) ∧ PaAt w' bp s q n
set_option maxRecDepth 100000 in
set_option maxHeartbeats 4000000 in
theorem list1_any (w0 : World) (bp cp lc cd dp a n : Nat) (s : ByteArray) (acc : List V) (c : UInt8) (r : Rd1) (w : World) (hL : LSt w0 w bp cp lc cd dp acc) (h : PaAt w bp s a n) (he : Penv w bp) (ha : a ≤ s.size) (hs : s.size ≤ 140737488351232) (hc : s.data.toList[skipN s.data.toList a]? = some c) (hlen : acc.length < 4096) (hdp : dp ≤ 64) (hr : PvalC s (dp + 1) (skipN s.data.toList a) n r) :
    Calls Tryz.prog 203 #[.pointer (some ⟨cp, 0, none⟩), .pointer (some ⟨lc, 0, none⟩), .pointer (some ⟨cd, 0, none⟩)] w (L1Post w0 bp cp lc cd dp s acc r w) := by
  obtain ⟨i0, hi0, hz0, hz1, hz2⟩ := info_parts Tryz.infoAny
  have hlt := h.lt
  have HN := Lib.hid (next_any bp s a n w h ha hs)
  obtain ⟨q, hq⟩ : ∃ q, q = skipN s.data.toList a := ⟨_, rfl⟩
  have HG : Hid (NextPost bp s a n w = fun e w' => e = .returned (.int .u8 (c.toNat : Int)) ∧ PaAt w' bp s q n ∧ Pside bp w w') := Lib.hid (by funext e w'; unfold NextPost; rw [hc, hq])
  rw [HG.out] at HN
  rw [← hq] at hr
  have HE := Lib.hid he
  have HL := Lib.hid hL
  have HR := Lib.hid (fun (W : World) (x : Int) (hx : x = ((dp + 1 : Nat) : Int)) (h1 : PaAt W bp s q n) (h2 : Penv W bp) => (by rw [hx]; exact hr bp W h1 h2 : Calls Tryz.prog 79 #[.pointer (some ⟨bp, 0, none⟩), .int .i64 x] W (VPost bp s r W)))
  have cc0 : w.cell? ⟨cp, 0, none⟩ = some (.pointer (some ⟨bp, 0, none⟩)) := by rw [Lib.cell_of_heap hL.hcp]; rfl
  clear h he hL hr hc hq HG
  go_enter Tryz.func203, Tryz.ntmps203
  go_wp2_with fail
  refine HN.out.mono ?_
  rintro e w1 ⟨rfl, hpa, hps⟩
  have hL1 := HL.out.pside hps
  obtain ⟨fr, hcp, hcd, ⟨v, hl, ho⟩, o1, o2, o3⟩ := hL1
  have d0 : w1.cell? ⟨cp, 0, none⟩ = some (.pointer (some ⟨bp, 0, none⟩)) := by rw [Lib.cell_of_heap hcp]; rfl
  have d1 : w1.cell? ⟨cd, 0, none⟩ = some (.int .i64 dp) := by rw [Lib.cell_of_heap hcd]; rfl
  have d2 : w1.cell? ⟨lc, 0, none⟩ = some v := by rw [Lib.cell_of_heap hl]; rfl
  obtain ⟨A1, k1, rfl⟩ := ho.form
  have hll : ¬ ((4096 : Int) ≤ (acc.length : Int)) := by omega
  have hw1 : IntKind.i64.wrap ((dp : Int) + 1) = (dp : Int) + 1 := by rw [IntKind.wrap_i64]; omega
  clear cc0
  go_wp2_with fail
  have SS : ∀ W : World, W.heap[cp]? = some (.cells #[.pointer (some ⟨bp, 0, none⟩)] 166 (0, 0)) ∧ W.heap[cd]? = some (.cells #[.int .i64 dp] 3 (0, 0)) ∧ W.heap[lc]? = some (.cells #[.slice A1 acc.length k1] 43 (0, 0)) → W.cell? ⟨cp, 0, none⟩ = some (.pointer (some ⟨bp, 0, none⟩)) ∧ W.cell? ⟨cd, 0, none⟩ = some (.int .i64 dp) ∧ W.cell? ⟨lc, 0, none⟩ = some (.slice A1 acc.length k1) := fun W h => ⟨by rw [Lib.cell_of_heap h.1]; rfl, by rw [Lib.cell_of_heap h.2.1]; rfl, by rw [Lib.cell_of_heap h.2.2]; rfl⟩
  have HSS := Lib.hid SS
  clear SS
  have HPA1 := Lib.hid hpa
  have HK1 : Hid (KeepL bp cp lc cd dp (.slice A1 acc.length k1) w1) := Lib.hid ⟨hcp, hcd, hl⟩
  have HFR := Lib.hid fr
  have HOW := Lib.hid ho
  have HPE1 := Lib.hid (HE.out.pside hps)
  clear hcp hcd hl fr ho hpa d0 d1 d2
  cases r with
  | error z =>
    obtain ⟨b1, y1⟩ := z
    refine wp_region_heldL (KeepL bp cp lc cd dp (.slice A1 acc.length k1)) 7 [0, 1, 2, 3] [4, 5, 6] (by kernel_rfl) (by rfl) (by rfl) (by kernel_rfl) (by kernel_rfl) (fun _ _ _ _ _ h => h) ?_ ?_
    · ((exact HK1.out))
    simp only [List.take_succ_cons, List.take_zero, pickI, List.getElem?_cons_succ, List.getElem?_cons_zero]
    repeat (refine HdS.step (fun K hK => ?_); go_simp; first | (refine hK _ ?_; clear hK K) | (apply Exists.intro; refine ⟨fun W hW => ?_, hK _ ?_⟩; (first | (intros; rfl) | ((obtain ⟨q0, q1, q2⟩ := HSS.out _ hW; go_simp; rfl))); clear hK K))
    refine HdS.nil ?_
    refine SeqS.step (fun K hK => ?_)
    go_simp
    go_at_call 79
    refine (HR.out w1.drew _ ?hx HPA1.out (HPE1.out.pside (Pside.refl _ _).drew)).mono ?_
    case hx => simp
    rintro e w2 ⟨rfl, h4⟩
    exact ⟨rfl, rfl, HFR.out.trans ((Pside.refl _ _).drew.trans h4)⟩
  | ok z =>
    obtain ⟨x, q2, n2⟩ := z
    refine wp_region_heldL (KeepL bp cp lc cd dp (.slice A1 acc.length k1)) 7 [0, 1, 2, 3] [4, 5, 6] (by kernel_rfl) (by rfl) (by rfl) (by kernel_rfl) (by kernel_rfl) (fun _ _ _ _ _ h => h) ?_ ?_
    · ((exact HK1.out))
    simp only [List.take_succ_cons, List.take_zero, pickI, List.getElem?_cons_succ, List.getElem?_cons_zero]
    repeat (refine HdS.step (fun K hK => ?_); go_simp; first | (refine hK _ ?_; clear hK K) | (apply Exists.intro; refine ⟨fun W hW => ?_, hK _ ?_⟩; (first | (intros; rfl) | ((obtain ⟨q0, q1, q2⟩ := HSS.out _ hW; go_simp; rfl))); clear hK K))
    refine HdS.nil ?_
    refine SeqS.step (fun K hK => ?_)
    go_simp
    go_at_call 79
    refine (HR.out w1.drew _ ?hy HPA1.out (HPE1.out.pside (Pside.refl _ _).drew)).mono ?_
    case hy => simp
    rintro e w2 ⟨⟨u, rfl, hu⟩, hpa2, hps2⟩
    have hp12 : Pside bp w1 w2 := (Pside.refl _ _).drew.trans hps2
    have hL2 : LSt w0 w2 bp cp lc cd dp acc := LSt.pside ⟨HFR.out, HK1.out.1, HK1.out.2.1, ⟨_, HK1.out.2.2, HOW.out⟩, o1, o2, o3⟩ hp12
    have hk2 : KeepL bp cp lc cd dp (.slice A1 acc.length k1) w2 := by
      have lt := fun {k : Nat} {o : Obj} (hk : w1.heap[k]? = some o) => (Array.getElem?_eq_some_iff.1 hk).1
      exact ⟨hL2.hcp, hL2.hcd, (hp12.block lc (lt HK1.out.2.2) (by omega)).trans HK1.out.2.2⟩
    refine hK _ _ hk2 ?_
    clear hK K
    have hou := hu.one
    have hface := hu.face
    have how2 := HOW.out.pside hp12 o3 (fun b hb e => by subst e; have := o1.1; have := o1.2; omega)
    obtain ⟨xs, hxo, hxx⟩ := how2
    have hl12 := hp12.size
    obtain ⟨xs0, hown0, -⟩ := HOW.out
    have hbal : ∀ u : Value, Below w2.heap.size w2 (w2.alloc (.cells #[u] 20)) := fun u => (Below.refl _ _).alloc (Nat.le_refl _) _
    have hlcl : lc < w1.heap.size := (Array.getElem?_eq_some_iff.1 HK1.out.2.2).1
    have hu2 := fun u9 : Value => fresh_of_new (F := fun b => lc < b) hu (hbal u9) (fun b h => Nat.lt_of_lt_of_le hlcl h) (show w1.drew.ownsRow w0.heap.size 20 1 (.slice A1 acc.length k1) acc.length xs0 from hown0)
    have hx2 : ∀ u9 : Value, ∀ (i : Nat) (x : V), acc[i]? = some x → ∃ y, xs[i]? = some y ∧ RdS (w2.alloc (.cells #[u9] 20)) (Fresh (fun b => lc < b) (w2.alloc (.cells #[u9] 20)) (.slice A1 acc.length k1)) x y := fun u9 i x hi => by
      obtain ⟨y, h1, h2⟩ := hxx i x hi
      exact ⟨y, h1, RdS.more (fun b hb' => ⟨hb'.1, Nat.lt_of_lt_of_le hb'.2.1 (hbal u9).size, hb'.2.2⟩) _ _ (RdS.keep (fun p hp => (hbal u9).cell hp.2.1) _ _ h2)⟩
    have hold : ∀ (u9 : Value), KeepL bp cp lc cd dp (.slice A1 acc.length k1) (w2.alloc (.cells #[u9] 20)) := fun u9 => by
      have lt := fun {k : Nat} {o : Obj} (hk : w2.heap[k]? = some o) => (Array.getElem?_eq_some_iff.1 hk).1
      exact ⟨(heap_alloc_old _ _ (lt hk2.1)).trans hk2.1, (heap_alloc_old _ _ (lt hk2.2.1)).trans hk2.2.1, (heap_alloc_old _ _ (lt hk2.2.2)).trans hk2.2.2⟩
    have hfr2 := hL2.fr
    have hfz := hfr2.size
    obtain ⟨uu, huu⟩ : ∃ uu, uu = u := ⟨_, rfl⟩
    have hoA : (w2.alloc (.cells #[uu] 20)).ownsRow w0.heap.size 20 1 (.slice A1 acc.length k1) acc.length xs := World.ownsRow.alloc hxo _
    have hA := hold uu
    rcases hface with rfl | ⟨ty, yy, rfl⟩
    all_goals
      refine SeqS.step (fun K hK => ?_)
      go_simp
      refine hK _ _ (hold _) ?_
      clear hK K
      refine SeqS.step (fun K hK => ?_)
      refine wp_append_lies _ (.tmp 14) (.tmp 19) 43 rfl w0.heap.size 20 i0 _ 1 16 Tryz.underlying43 hi0 hz0 hz1 hz2 rfl (by omega) (.slice A1 acc.length k1) acc.length xs rfl (World.ownsRow.alloc hxo _) ⟨w2.heap.size, 0, none⟩ 1 1 [_] rfl rfl (news_at rfl) (one_of1 hou) (by omega) (by unfold maxLen; omega) (by omega) (by simp; omega) _ rfl ?_
      intro g cap w3 hown3 hg3 hat hlt3
      subst huu
      have m3 := not_own hoA hA.2.2 (by decide)
      have hk3 : KeepL bp cp lc cd dp (.slice A1 acc.length k1) w3 := by
        have lt := fun {W : World} {k : Nat} {o : Obj} (hk : W.heap[k]? = some o) => (Array.getElem?_eq_some_iff.1 hk).1
        have m1 := not_own hoA hA.1 (by decide)
        have m2 := not_own hoA hA.2.1 (by decide)
        exact ⟨(hg3.block cp (lt hA.1) (fun e => m1 e.symm)).trans hA.1, (hg3.block cd (lt hA.2.1) (fun e => m2 e.symm)).trans hA.2.1, (hg3.block lc (lt hA.2.2) (fun e => m3 e.symm)).trans hA.2.2⟩
      have hp3 := (hfr2.alloc _).grown hg3 (fun j hj => (World.ownsRow.lt hoA j hj).1)
      have hpa3 := (hpa2.alloc _).grown hg3 (fun e => by have := (World.ownsRow.lt hoA bp e).1; omega)
      have hO4 := OwnV.snoc rfl hoA (hx2 _) (hu2 _) hown3 hg3 hat
      have m4 := not_own hown3 hk3.2.2 (by decide)
      have hff : w3.frozen? ⟨lc, 0, none⟩ = false := by simp [World.frozen?, hk3.2.2]
      have hcc : w3.cell? ⟨lc, 0, none⟩ = some (.slice A1 acc.length k1) := by rw [Lib.cell_of_heap hk3.2.2]; rfl
      refine hK _ _ hk3 ?_
      clear hK K
      refine SeqS.nil ?_
      unfold lastQ
      go_simp
      go_wp2
      go_end0
      refine ⟨rfl, ⟨hp3.setNew (by omega) _ _, ?_, ?_, ⟨_, ?_, OwnV.set hO4 m4 (fun b hb e => by subst e; omega)⟩, o1, o2, o3⟩, ?_⟩
      · exact (Below.heap_setCell w3 ⟨lc, 0, none⟩ _ cp (by simp; omega)).trans hk3.1
      · exact (Below.heap_setCell w3 ⟨lc, 0, none⟩ _ cd (by simp; omega)).trans hk3.2.1
      · simp [World.setCell, Array.getElem?_modify, hk3.2.2]
      · exact (Below.heap_setCell w3 ⟨lc, 0, none⟩ _ bp (by simp; omega)).trans hpa3
end Go.Proofs.YtobpkelblpdajaaGreatDoor
