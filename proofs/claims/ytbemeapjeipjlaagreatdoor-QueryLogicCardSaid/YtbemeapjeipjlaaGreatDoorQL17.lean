/- What an asking answers is of kinds that can be, and no greater than a value may be. -/
import Derived.Test.YtbemeapjeipjlaaGreatDoorQL15
import Derived.Test.YtbemeapjeipjlaaGreatDoorQL12
set_option linter.unusedVariables false
set_option linter.unusedSimpArgs false
namespace Go.Proofs.YtbemeapjeipjlaaGreatDoor
open Go Go.RowKit
mutual
def tameV : V → Prop
  | .text s => s.size ≤ 65536
  | .bytes l => l.length ≤ 65536
  | .list l => l.length ≤ 16384 ∧ tameL l
  | .dict l => tameD l
  | .record _ _ l => tameD l
  | .nothing => False
  | .alien => False
  | .nil => True
  | .bool _ => True
  | .int _ => True
  | .flt _ => True
  | .ref _ => True
def tameL : List V → Prop
  | [] => True
  | x :: r => tameV x ∧ tameL r
def tameD : List (ByteArray × V) → Prop
  | [] => True
  | (_, x) :: r => tameV x ∧ tameD r
end
theorem tameL_iff {l : List V} : tameL l ↔ ∀ x ∈ l, tameV x := by
  induction l with
  | nil => simp [tameL]
  | cons x r ih => simp [tameL, ih]
theorem tameD_iff {l : List (ByteArray × V)} : tameD l ↔ ∀ p ∈ l, tameV p.2 := by
  induction l with
  | nil => simp [tameD]
  | cons x r ih => obtain ⟨n, x⟩ := x; simp [tameD, ih]
theorem own_text_le {s : ByteArray} {n d : Nat} (h : ownV (.text s) n d = 0) : s.size ≤ 65536 := by
  unfold ownV at h
  split at h
  · cases h
  · simp only at h; split at h
    · cases h
    · omega
theorem own_bytes_le {l : List UInt8} {n d : Nat} (h : ownV (.bytes l) n d = 0) : l.length ≤ 65536 := by
  unfold ownV at h
  split at h
  · cases h
  · simp only at h; split at h
    · cases h
    · omega
theorem own_list_le {l : List V} {n d : Nat} (h : ownV (.list l) n d = 0) : l.length ≤ 4096 := by
  unfold ownV at h
  split at h
  · cases h
  · simp only at h; split at h
    · cases h
    · omega
theorem partL_tame (l : List V) (ih : ∀ x ∈ l, ∀ d s, (partV x d s).1 = true → tameV x) : ∀ d s, (partL l d s).1 = true → tameL l := by
  induction l with
  | nil => intro d s _; exact trivial
  | cons x r ihr =>
    intro d s h
    obtain ⟨h1, h2⟩ := then_fine h
    exact ⟨ih x (by simp) _ _ h1, ihr (fun y hy => ih y (by simp [hy])) _ _ h2⟩
theorem partD_tame (l : List (ByteArray × V)) (ih : ∀ p ∈ l, ∀ d s, (partV p.2 d s).1 = true → tameV p.2) : ∀ d s, (partD l d s).1 = true → tameD l := by
  induction l with
  | nil => intro d s _; exact trivial
  | cons p r ihr =>
    obtain ⟨n, x⟩ := p
    intro d s h
    obtain ⟨h1, h2⟩ := then_fine h
    exact ⟨ih (n, x) (by simp) _ _ h1, ihr (fun y hy => ih y (by simp [hy])) _ _ h2⟩
theorem part_tame (x : V) : ∀ d s, (partV x d s).1 = true → tameV x := by
  induction x using V.ind with
  | h0 => intro d s _; trivial
  | h1 => intro d s _; trivial
  | h2 => intro d s _; trivial
  | h3 => intro d s _; trivial
  | h4 => intro d s h; exact own_text_le (step_fine h).1
  | h5 => intro d s h; exact own_bytes_le (step_fine h).1
  | h6 => intro d s _; trivial
  | h7 l ih => intro d s h; exact ⟨by have := own_list_le (step_fine h).1; omega, partL_tame l ih _ _ (step_fine h).2⟩
  | h8 l ih => intro d s h; exact partD_tame l ih _ _ (step_fine h).2
  | h9 c v l ih => intro d s h; exact partD_tame l ih _ _ (step_fine h).2
  | h10 => intro d s h; exact absurd rfl (own_kind (step_fine h).1).1
  | h11 => intro d s h; exact absurd rfl (own_kind (step_fine h).1).2
theorem okV_tame {x : V} (h : okV x) : tameV x := part_tame x _ _ h
theorem tame_kind {x : V} (h : tameV x) : kindV x ≠ 11 := by cases x <;> first | exact h.elim | (simp [kindV])
/- An answer that is no greater than a value may be. -/
def TameO (o : Out) : Prop := ∀ x, o = .val x → tameV x
theorem TameO.gone (a : Int) (w : Nat) : TameO (.gone a w) := fun x h => by cases h
theorem TameO.val {x : V} (h : tameV x) : TameO (.val x) := fun y e => by injection e with e; subst e; exact h
theorem fields_tame {x : V} {l : List (ByteArray × V)} (h : tameV x) (hf : fieldsOf x = some l) : tameD l := by
  cases x <;> first | (injection hf with hf; subst hf; exact h) | cases hf
theorem under_tame {l : List (ByteArray × V)} {s : ByteArray} (h : tameD l) : tameV ((underV l s).getD .nil) := by
  induction l with
  | nil => exact trivial
  | cons p r ih =>
    obtain ⟨n, x⟩ := p
    rw [underV]
    split
    · exact h.1
    · exact ih h.2
theorem field_tame {a : Int} {v : V} {s : ByteArray} (h : tameV v) : TameO (fieldV a v s) := by
  unfold fieldV
  cases hf : fieldsOf v with
  | none => exact TameO.gone _ _
  | some l => exact TameO.val (under_tame (fields_tame h hf))
theorem good_tame {a : Int} {x : V} : TameO (goodV a x) := by
  unfold goodV
  split
  · rename_i h; exact TameO.val (okV_tame (okV_check.2 h))
  · exact TameO.gone _ _
theorem held_tame {op : ByteArray} {a : Int} {x y : V} : TameO (heldV op a x y) := by
  unfold heldV
  repeat' split
  all_goals first | exact TameO.gone _ _ | exact TameO.val trivial
theorem joined_tame {a : Int} {x y : V} : TameO (joinedV a x y) := by
  unfold joinedV
  split <;> first | exact good_tame | exact TameO.gone _ _
theorem intOut_tame {a : Int} {r : Option Int} : TameO (intOut a r) := by
  cases r <;> first | exact TameO.gone _ _ | exact TameO.val trivial
theorem reckon_tame {op : ByteArray} {a : Int} {x y : V} : TameO (reckonV op a x y) := by
  unfold reckonV
  split
  · exact intOut_tame
  · split
    · split <;> first | exact TameO.gone _ _ | exact TameO.val trivial
    · split
      · exact joined_tame
      · exact TameO.gone _ _
theorem neg_tame {a : Int} {x : V} : TameO (negV a x) := by
  unfold negV
  split
  · split <;> first | exact TameO.gone _ _ | exact TameO.val trivial
  · exact TameO.val trivial
  · exact TameO.gone _ _
theorem not_tame {a : Int} {x : V} : TameO (notV a x) := by
  unfold notV
  split <;> first | exact TameO.gone _ _ | exact TameO.val trivial
theorem getD_tame {l : List V} (h : tameL l) (k : Nat) : tameV (l.getD k .nil) := by
  rw [List.getD_eq_getElem?_getD]
  cases hk : l[k]? with
  | none => exact trivial
  | some x => exact tameL_iff.1 h x (List.mem_of_getElem? hk)
theorem place_tame {a : Int} {x y : V} (h : tameV x) : TameO (placeV' a x y) := by
  unfold placeV'
  split
  · split
    · refine TameO.val ?_
      unfold placeAt
      split
      · split
        · trivial
        · exact getD_tame h.2 _
      · exact getD_tame h.2 _
    · exact TameO.gone _ _
  · split
    · exact field_tame h
    · exact TameO.gone _ _
theorem within_tame {a : Int} {x y : V} : TameO (withinV a x y) := by
  unfold withinV
  split
  · exact TameO.val trivial
  · split <;> first | exact TameO.gone _ _ | exact TameO.val trivial
theorem length_tame {a : Int} {x : V} : TameO (lengthV a x) := by
  unfold lengthV
  split
  · exact TameO.val trivial
  · exact TameO.val trivial
  · exact TameO.val trivial
  · split <;> first | exact TameO.gone _ _ | exact TameO.val trivial
theorem keys_tame {a : Int} {x : V} : TameO (keysV a x) := by
  unfold keysV
  split <;> first | exact good_tame | exact TameO.gone _ _
theorem has_tame {a : Int} {x y : V} : TameO (hasV a x y) := by
  unfold hasV
  split <;> first | exact TameO.gone _ _ | exact TameO.val trivial
theorem sum_tame {a : Int} : ∀ (l : List V) (n : V), tameV n → TameO (sumV a l n)
  | [], n, h => TameO.val h
  | x :: r, n, h => by
    rw [sumV]
    split
    · exact TameO.gone _ _
    · split
      · rename_i m hm; exact sum_tame r m (reckon_tame m hm)
      · exact TameO.gone _ _
theorem lead_tame {a : Int} {most : Bool} : ∀ (l : List V) (n : V), tameL l → tameV n → TameO (leadV a most l n)
  | [], n, _, h => TameO.val h
  | x :: r, n, hl, h => by
    rw [leadV]
    split
    · exact TameO.gone _ _
    · refine lead_tame r _ hl.2 ?_
      split
      · exact hl.1
      · exact h
theorem listed_tame {nm : ByteArray} {a : Int} {l : List V} (h : tameL l) : TameO (listedV nm a l) := by
  unfold listedV
  split
  · exact sum_tame _ _ trivial
  · split
    · exact TameO.val trivial
    · rename_i x r
      split
      · exact TameO.val h.1
      · split
        · refine TameO.val ?_
          rw [List.getLastD_eq_getLast?, List.getLast?_eq_getElem?]
          rw [← List.getD_eq_getElem?_getD]
          exact getD_tame h _
        · split
          · exact TameO.gone _ _
          · exact lead_tame _ _ h.2 h.1
theorem pair_tame {op : ByteArray} {a : Int} {x y : V} (h : tameV x) : TameO (pairV op a x y) := by
  unfold pairV
  split
  · exact place_tame h
  · split
    · exact within_tame
    · split
      · exact reckon_tame
      · exact held_tame
def TameA (f : Ask) : Prop := ∀ v n, tameV v → TameO (f v n).1
theorem bind_tame {r : Out × Nat} {K : V → Nat → Out × Nat} (hr : TameO r.1) (hK : ∀ x m, tameV x → TameO (K x m).1) : TameO (bindA r K).1 := by
  unfold bindA
  cases h : r.1 with
  | val x => exact hK x _ (hr x h)
  | gone a w => exact TameO.gone _ _
theorem subA_tame {l : List Ask} (h : ∀ f ∈ l, TameA f) (i : Nat) : TameA (subA l i) := by
  unfold subA
  rw [List.getD_eq_getElem?_getD]
  cases hk : l[i]? with
  | none => intro v n _; exact TameO.gone _ _
  | some f => exact h f (List.mem_of_getElem? hk)
theorem logic_tame {a : Int} {or : Bool} : ∀ (l : List Ask) (v : V) (n : Nat), (∀ f ∈ l, TameA f) → tameV v → TameO (logicA a or l v n).1
  | [], _, _, _, _ => TameO.val trivial
  | f :: r, v, n, h, hv => by
    rw [logicA]
    refine bind_tame (h f (by simp) v n hv) fun x m hx => ?_
    split
    · split
      · exact TameO.val trivial
      · exact logic_tame r v m (fun g hg => h g (by simp [hg])) hv
    · exact TameO.gone _ _
theorem list_tame {a : Int} : ∀ (l : List Ask) (v : V) (o : List V) (n : Nat), (∀ f ∈ l, TameA f) → tameV v → TameO (listA a l v o n).1
  | [], _, _, _, _, _ => good_tame
  | f :: r, v, o, n, h, hv => by
    rw [listA]
    exact bind_tame (h f (by simp) v n hv) fun x m hx => list_tame r v _ m (fun g hg => h g (by simp [hg])) hv
theorem each_tame {nm : ByteArray} {a : Int} {f : Ask} (hf : TameA f) : ∀ (l o : List V) (n : Nat), tameL l → TameO (eachA nm a f l o n).1
  | [], o, n, _ => by
    rw [eachA]
    simp only
    split
    · exact TameO.val trivial
    · split
      · exact TameO.val trivial
      · exact good_tame
  | x :: r, o, n, hl => by
    rw [eachA]
    refine bind_tame (hf x n hl.1) fun y m hy => ?_
    split
    · exact each_tame hf r _ m hl.2
    · split
      · split
        · exact TameO.val trivial
        · split
          · exact TameO.val trivial
          · split
            · exact each_tame hf r _ m hl.2
            · exact each_tame hf r _ m hl.2
      · exact TameO.gone _ _
theorem kindWords_tame (k : Nat) : tameV (.text (kindWords.getD k ⟨#[]⟩)) := by
  show (kindWords.getD k ⟨#[]⟩).size ≤ 65536
  by_cases hk : k < 11
  · have : k = 0 ∨ k = 1 ∨ k = 2 ∨ k = 3 ∨ k = 4 ∨ k = 5 ∨ k = 6 ∨ k = 7 ∨ k = 8 ∨ k = 9 ∨ k = 10 := by omega
    rcases this with rfl | rfl | rfl | rfl | rfl | rfl | rfl | rfl | rfl | rfl | rfl <;> decide
  · rw [List.getD_eq_getElem?_getD, List.getElem?_eq_none (by show 11 ≤ k; omega)]; decide
theorem call_tame {nm : ByteArray} {a : Int} {l : List Ask} {v : V} {n : Nat} (h : ∀ f ∈ l, TameA f) (hv : tameV v) : TameO (callA nm a l v n).1 := by
  unfold callA
  refine bind_tame (subA_tame h 0 v n hv) fun x m hx => ?_
  split
  · split
    · exact each_tame (subA_tame h 1) _ _ _ hx.2
    · exact TameO.gone _ _
  · split
    · exact length_tame
    · split
      · exact TameO.val (kindWords_tame _)
      · split
        · exact keys_tame
        · split
          · exact bind_tame (subA_tame h 1 v m hv) fun y k _ => has_tame
          · simp only
            split
            · exact listed_tame hx.2
            · exact TameO.gone _ _
theorem literal_tame {t : Tm} : tameV (literalV t) := by
  unfold literalV
  split
  · rename_i h; exact okV_tame (okV_check.2 h)
  · trivial
theorem TameO.ite {c : Prop} [Decidable c] {x y : Out × Nat} (h1 : c → TameO x.1) (h2 : ¬ c → TameO y.1) : TameO (if c then x else y).1 := by
  by_cases h : c
  · rw [if_pos h]; exact h1 h
  · rw [if_neg h]; exact h2 h
theorem step_tame {op : ByteArray} {a : Int} {nm : ByteArray} {t : Tm} {l : List Ask} (h : ∀ f ∈ l, TameA f) : TameA (stepA op a nm t l) := by
  intro v n hv
  unfold stepA
  by_cases h0 : 1048576 < n + 1
  · rw [if_pos h0]; exact TameO.gone _ _
  rw [if_neg h0]
  refine TameO.ite (fun _ => TameO.val literal_tame) fun _ => ?_
  refine TameO.ite (fun _ => TameO.val hv) fun _ => ?_
  refine TameO.ite (fun _ => field_tame hv) fun _ => ?_
  refine TameO.ite (fun _ => bind_tame (subA_tame h 0 v _ hv) fun x m hx => field_tame hx) fun _ => ?_
  refine TameO.ite (fun _ => logic_tame l v _ h hv) fun _ => ?_
  refine TameO.ite (fun _ => logic_tame l v _ h hv) fun _ => ?_
  refine TameO.ite (fun _ => bind_tame (subA_tame h 0 v _ hv) fun x m hx => not_tame) fun _ => ?_
  refine TameO.ite (fun _ => bind_tame (subA_tame h 0 v _ hv) fun x m hx => TameO.val trivial) fun _ => ?_
  refine TameO.ite (fun _ => bind_tame (subA_tame h 0 v _ hv) fun x m hx => neg_tame) fun _ => ?_
  refine TameO.ite (fun _ => list_tame l v [] _ h hv) fun _ => ?_
  refine TameO.ite (fun _ => call_tame h hv) fun _ => ?_
  exact bind_tame (subA_tame h 0 v _ hv) fun x m hx => bind_tame (subA_tame h 1 v m hv) fun y k _ => pair_tame hx
theorem ask_tame (e : Ex) : TameA (askV e) := by
  induction e using Ex.ind with
  | h op a l n t ih =>
    rw [askV]
    refine step_tame fun f hf => ?_
    rw [askL_eq] at hf
    obtain ⟨x, hx, rfl⟩ := List.mem_map.1 hf
    exact ih x hx
end Go.Proofs.YtbemeapjeipjlaaGreatDoor
/- How many were asked behind an asking that answers. -/
namespace Go.Proofs.YtbemeapjeipjlaaGreatDoor
open Go Go.RowKit
def CountO (r : Out × Nat) : Prop := ∀ x, r.1 = .val x → r.2 ≤ 1048576
def CountA (f : Ask) : Prop := ∀ v n, n ≤ 1048576 → CountO (f v n)
theorem CountO.gone (a : Int) (w n : Nat) : CountO (.gone a w, n) := fun x h => by cases h
theorem CountO.le {o : Out} {n : Nat} (h : n ≤ 1048576) : CountO (o, n) := fun _ _ => h
theorem bind_count {r : Out × Nat} {K : V → Nat → Out × Nat} (hr : CountO r) (hK : ∀ x m, m ≤ 1048576 → CountO (K x m)) : CountO (bindA r K) := by
  unfold bindA
  cases h : r.1 with
  | val x => exact hK x _ (hr x h)
  | gone a w => exact CountO.gone _ _ _
theorem subA_count {l : List Ask} (h : ∀ f ∈ l, CountA f) (i : Nat) : CountA (subA l i) := by
  unfold subA
  rw [List.getD_eq_getElem?_getD]
  cases hk : l[i]? with
  | none => intro v n _; exact CountO.gone _ _ _
  | some f => exact h f (List.mem_of_getElem? hk)
theorem logic_count {a : Int} {or : Bool} : ∀ (l : List Ask) (v : V) (n : Nat), (∀ f ∈ l, CountA f) → n ≤ 1048576 → CountO (logicA a or l v n)
  | [], _, _, _, h => CountO.le h
  | f :: r, v, n, h, hn => by
    rw [logicA]
    refine bind_count (h f (by simp) v n hn) fun x m hm => ?_
    split
    · split
      · exact CountO.le hm
      · exact logic_count r v m (fun g hg => h g (by simp [hg])) hm
    · exact CountO.gone _ _ _
theorem list_count {a : Int} : ∀ (l : List Ask) (v : V) (o : List V) (n : Nat), (∀ f ∈ l, CountA f) → n ≤ 1048576 → CountO (listA a l v o n)
  | [], _, _, _, _, h => CountO.le h
  | f :: r, v, o, n, h, hn => by
    rw [listA]
    exact bind_count (h f (by simp) v n hn) fun x m hm => list_count r v _ m (fun g hg => h g (by simp [hg])) hm
theorem each_count {nm : ByteArray} {a : Int} {f : Ask} (hf : CountA f) : ∀ (l o : List V) (n : Nat), n ≤ 1048576 → CountO (eachA nm a f l o n)
  | [], o, n, h => CountO.le h
  | x :: r, o, n, h => by
    rw [eachA]
    refine bind_count (hf x n h) fun y m hm => ?_
    split
    · exact each_count hf r _ m hm
    · split
      · split
        · exact CountO.le hm
        · split
          · exact CountO.le hm
          · split
            · exact each_count hf r _ m hm
            · exact each_count hf r _ m hm
      · exact CountO.gone _ _ _
theorem call_count {nm : ByteArray} {a : Int} {l : List Ask} {v : V} {n : Nat} (h : ∀ f ∈ l, CountA f) (hn : n ≤ 1048576) : CountO (callA nm a l v n) := by
  unfold callA
  refine bind_count (subA_count h 0 v n hn) fun x m hm => ?_
  split
  · split
    · exact each_count (subA_count h 1) _ _ _ hm
    · exact CountO.gone _ _ _
  · split
    · exact CountO.le hm
    · split
      · exact CountO.le hm
      · split
        · exact CountO.le hm
        · split
          · exact bind_count (subA_count h 1 v m hm) fun y k hk => CountO.le hk
          · exact CountO.le hm
theorem CountO.ite {c : Prop} [Decidable c] {x y : Out × Nat} (h1 : c → CountO x) (h2 : ¬ c → CountO y) : CountO (if c then x else y) := by
  by_cases h : c
  · rw [if_pos h]; exact h1 h
  · rw [if_neg h]; exact h2 h
theorem step_count {op : ByteArray} {a : Int} {nm : ByteArray} {t : Tm} {l : List Ask} (h : ∀ f ∈ l, CountA f) : CountA (stepA op a nm t l) := by
  intro v n hn
  unfold stepA
  by_cases h0 : 1048576 < n + 1
  · rw [if_pos h0]; exact CountO.gone _ _ _
  have h1 : n + 1 ≤ 1048576 := by omega
  rw [if_neg h0]
  refine CountO.ite (fun _ => CountO.le h1) fun _ => ?_
  refine CountO.ite (fun _ => CountO.le h1) fun _ => ?_
  refine CountO.ite (fun _ => CountO.le h1) fun _ => ?_
  refine CountO.ite (fun _ => bind_count (subA_count h 0 v _ h1) fun x m hm => CountO.le hm) fun _ => ?_
  refine CountO.ite (fun _ => logic_count l v _ h h1) fun _ => ?_
  refine CountO.ite (fun _ => logic_count l v _ h h1) fun _ => ?_
  refine CountO.ite (fun _ => bind_count (subA_count h 0 v _ h1) fun x m hm => CountO.le hm) fun _ => ?_
  refine CountO.ite (fun _ => bind_count (subA_count h 0 v _ h1) fun x m hm => CountO.le hm) fun _ => ?_
  refine CountO.ite (fun _ => bind_count (subA_count h 0 v _ h1) fun x m hm => CountO.le hm) fun _ => ?_
  refine CountO.ite (fun _ => list_count l v [] _ h h1) fun _ => ?_
  refine CountO.ite (fun _ => call_count h h1) fun _ => ?_
  exact bind_count (subA_count h 0 v _ h1) fun x m hm => bind_count (subA_count h 1 v m hm) fun y k hk => CountO.le hk
theorem ask_count (e : Ex) : CountA (askV e) := by
  induction e using Ex.ind with
  | h op a l n t ih =>
    rw [askV]
    refine step_count fun f hf => ?_
    rw [askL_eq] at hf
    obtain ⟨x, hx, rfl⟩ := List.mem_map.1 hf
    exact ih x hx
end Go.Proofs.YtbemeapjeipjlaaGreatDoor
