/- The laws of logic, in plain. -/
import Derived.Test.YtbemeapjeipjlaaGreatDoorQL46
import Derived.Test.YtbemeapjeipjlaaGreatDoorQL44
import Derived.Test.YtbemeapjeipjlaaGreatDoorQL47
import Derived.Test.YtbemeapjeipjlaaGreatDoorQL45
set_option linter.unusedVariables false
set_option linter.unusedSimpArgs false
namespace Go.Proofs.YtbemeapjeipjlaaGreatDoor
open Go Go.RowKit
abbrev exOp (op : ByteArray) (l : List Ex) : Ex := .mk op 0 l ⟨#[]⟩ zeroTm
abbrev exCall (nm : ByteArray) (l : List Ex) : Ex := .mk oCall 0 l nm zeroTm
theorem askF_not (p : Ex) (v : V) : askF (exOp oNot [p]) v = bindO (askF p v) (notV 0) := by
  rw [askF]; unfold stepF
  rw [if_neg (by decide), if_neg (by decide), if_neg (by decide), if_neg (by decide), if_neg (by decide), if_neg (by decide), if_pos rfl]; rfl
theorem askF_or (l : List Ex) (v : V) : askF (exOp oOr l) v = logicF 0 true (askFL l) v := by
  rw [askF]; unfold stepF
  rw [if_neg (by decide), if_neg (by decide), if_neg (by decide), if_neg (by decide), if_pos rfl]
theorem askF_and (l : List Ex) (v : V) : askF (exOp oAnd l) v = logicF 0 false (askFL l) v := by
  rw [askF]; unfold stepF
  rw [if_neg (by decide), if_neg (by decide), if_neg (by decide), if_neg (by decide), if_neg (by decide), if_pos rfl]
theorem askF_call (nm : ByteArray) (l : List Ex) (v : V) : askF (exCall nm l) v = callF nm 0 (askFL l) v := by
  rw [askF]; unfold stepF
  rw [if_neg (by decide), if_neg (by decide), if_neg (by decide), if_neg (by decide), if_neg (by decide), if_neg (by decide), if_neg (by decide), if_neg (by decide), if_neg (by decide), if_neg (by decide), if_pos rfl]
theorem askF_self (v : V) : askF (exOp oSelf []) v = .val v := by
  rw [askF]; unfold stepF
  rw [if_neg (by decide), if_pos rfl]
theorem stepF_pair {op : ByteArray} (h : op ∈ [oEq, oNe, oLt, oGt]) (n : ByteArray) (t : Tm) (l : List (V → Out)) (v : V) : stepF op 0 n t l v = bindO (subF l 0 v) fun x => bindO (subF l 1 v) fun y => pairV op 0 x y := by
  unfold stepF
  simp only [List.mem_cons, List.mem_nil_iff, or_false] at h
  rcases h with rfl | rfl | rfl | rfl <;>
    rw [if_neg (by decide), if_neg (by decide), if_neg (by decide), if_neg (by decide), if_neg (by decide), if_neg (by decide), if_neg (by decide), if_neg (by decide), if_neg (by decide), if_neg (by decide), if_neg (by decide)]
theorem pairV_held {op : ByteArray} (h : op ∈ [oEq, oNe, oLt, oGt]) (a : Int) (x y : V) : pairV op a x y = heldV op a x y := by
  unfold pairV
  simp only [List.mem_cons, List.mem_nil_iff, or_false] at h
  rcases h with rfl | rfl | rfl | rfl <;> rw [if_neg (by decide), if_neg (by decide), if_neg (by decide)]
theorem askF_pair {op : ByteArray} (h : op ∈ [oEq, oNe, oLt, oGt]) (p q : Ex) (v : V) : askF (exOp op [p, q]) v = bindO (askF p v) fun x => bindO (askF q v) fun y => heldV op 0 x y := by
  rw [askF, stepF_pair h]
  show bindO (askF p v) _ = _
  congr 1; funext x
  show bindO (askF q v) _ = _
  congr 1; funext y
  exact pairV_held h 0 x y
/- What both answer: the same, plain, or nothing for one reason. -/
def Both (o p : Out) : Prop := (∃ x, plainV x ∧ o = .val x ∧ p = .val x) ∨ (∃ a b w, o = .gone a w ∧ p = .gone b w)
def Loose (o p : Out) : Prop := (∃ x, plainV x ∧ o = .val x ∧ p = .val x) ∨ ((∃ a w, o = .gone a w) ∧ ∃ b w, p = .gone b w)
theorem Both.loose {o p : Out} (h : Both o p) : Loose o p := h.imp id fun ⟨a, b, w, h1, h2⟩ => ⟨⟨a, w, h1⟩, b, w, h2⟩
theorem plainV.bool (b : Bool) : plainV (.bool b) := .inr (.inl ⟨b, rfl⟩)
theorem plainV.int (b : Int) : plainV (.int b) := .inr (.inr ⟨b, rfl⟩)
theorem bool_or (x : V) : (∃ b, x = .bool b) ∨ ∀ b, x ≠ .bool b := by cases x <;> simp
theorem notV_no {a : Int} {x : V} (h : ∀ b, x ≠ .bool b) : notV a x = .gone a 172 := by
  cases x <;> first | rfl | exact absurd rfl (h _)
theorem pair0 (a b : Ex) (v : V) : Both (askF (exOp oNot [exOp oAnd [a, b]]) v) (askF (exOp oOr [exOp oNot [a], exOp oNot [b]]) v) := by
  rw [askF_not, askF_and, askF_or]
  simp only [askFL, logicF, askF_not]
  cases askF a v with
  | gone x w => exact .inr ⟨x, x, w, rfl, rfl⟩
  | val x =>
    rcases bool_or x with ⟨p, rfl⟩ | h
    · cases p with
      | false => exact .inl ⟨.bool true, plainV.bool _, rfl, rfl⟩
      | true =>
        cases askF b v with
        | gone x w => exact .inr ⟨x, x, w, rfl, rfl⟩
        | val y =>
          rcases bool_or y with ⟨q, rfl⟩ | h
          · cases q with
            | false => exact .inl ⟨.bool true, plainV.bool _, rfl, rfl⟩
            | true => exact .inl ⟨.bool false, plainV.bool _, rfl, rfl⟩
          · refine .inr ⟨0, 0, 172, ?_, ?_⟩
            · cases y <;> first | rfl | exact absurd rfl (h _)
            · cases y <;> first | rfl | exact absurd rfl (h _)
    · refine .inr ⟨0, 0, 172, ?_, ?_⟩
      · cases x <;> first | rfl | exact absurd rfl (h _)
      · cases x <;> first | rfl | exact absurd rfl (h _)
theorem callF_turns {nm : ByteArray} (h : turnsB nm = true) (p q : Ex) (v : V) : askF (exCall nm [p, q]) v = bindO (askF p v) fun x => match x with | .list xs => eachF nm 0 (askF q) xs [] | _ => .gone 0 172 := by
  rw [askF_call]; unfold callF
  show bindO (askF p v) _ = _
  congr 1; funext x
  rw [if_pos h]; rfl
theorem list_or (x : V) : (∃ l, x = .list l) ∨ ∀ l, x ≠ .list l := by cases x <;> simp
theorem any_all (f g : V → Out) (hg : ∀ x, g x = bindO (f x) (notV 0)) : ∀ (l o o' : List V), Both (bindO (eachF gAny 0 f l o) (notV 0)) (eachF gAll 0 g l o')
  | [], o, o' => by
    refine .inl ⟨.bool true, plainV.bool _, ?_, ?_⟩
    · rw [eachF, if_pos rfl]; rfl
    · rw [eachF, if_neg (by decide), if_pos rfl]
  | x :: r, o, o' => by
    cases hfx : f x with
    | gone a w =>
      refine .inr ⟨a, a, w, ?_, ?_⟩
      · rw [eachF, hfx]; rfl
      · rw [eachF, hg, hfx]; rfl
    | val y =>
      rcases bool_or y with ⟨q, rfl⟩ | h
      · cases q with
        | true =>
          refine .inl ⟨.bool false, plainV.bool _, ?_, ?_⟩
          · rw [eachF, hfx]; simp only [bindO]; rw [if_neg (by decide), if_pos (by decide)]; rfl
          · rw [eachF, hg, hfx]; simp only [bindO, notV]; rw [if_neg (by decide), if_neg (by decide), if_pos (by decide)]
        | false =>
          have e1 : eachF gAny 0 f (x :: r) o = eachF gAny 0 f r o := by
            rw [eachF, hfx]; simp only [bindO]; rw [if_neg (by decide), if_neg (by decide), if_neg (by decide), if_neg (by decide)]
          have e2 : eachF gAll 0 g (x :: r) o' = eachF gAll 0 g r o' := by
            rw [eachF, hg, hfx]; simp only [bindO, notV]; rw [if_neg (by decide), if_neg (by decide), if_neg (by decide), if_neg (by decide)]
          rw [e1, e2]
          exact any_all f g hg r o o'
      · refine .inr ⟨0, 0, 172, ?_, ?_⟩
        · have e : eachF gAny 0 f (x :: r) o = .gone 0 172 := by
            rw [eachF, hfx]; simp only [bindO]; rw [if_neg (by decide)]
          rw [e]
          first | done | rfl
        · rw [eachF, hg, hfx, show bindO (.val y) (notV 0) = .gone 0 172 from notV_no h]; rfl
theorem pair1 (a b : Ex) (v : V) : Both (askF (exOp oNot [exCall gAny [a, b]]) v) (askF (exCall gAll [a, exOp oNot [b]]) v) := by
  rw [askF_not, callF_turns (by decide), callF_turns (by decide)]
  cases askF a v with
  | gone x w => exact .inr ⟨x, x, w, rfl, rfl⟩
  | val x =>
    rcases list_or x with ⟨l, rfl⟩ | h
    · exact any_all (askF b) (askF (exOp oNot [b])) (askF_not b) l [] []
    · refine .inr ⟨0, 0, 172, ?_, ?_⟩
      · cases x <;> first | rfl | exact absurd rfl (h _)
      · cases x <;> first | rfl | exact absurd rfl (h _)
theorem heldV_lt (x y : V) : heldV oLt 0 x y = match lessV x y with | none => .gone 0 172 | some b => .val (.bool b) := by
  unfold heldV; rw [if_neg (by decide), if_neg (by decide), if_pos rfl]; rfl
theorem heldV_gt (x y : V) : heldV oGt 0 x y = match lessV y x with | none => .gone 0 172 | some b => .val (.bool b) := by
  unfold heldV; rw [if_neg (by decide), if_neg (by decide), if_neg (by decide), if_pos rfl]; rfl
theorem heldV_eq (x y : V) : heldV oEq 0 x y = .val (.bool (equalV x y)) := by unfold heldV; rw [if_pos rfl]
theorem heldV_ne (x y : V) : heldV oNe 0 x y = .val (.bool (!equalV x y)) := by unfold heldV; rw [if_neg (by decide), if_pos rfl]
theorem pair2 (a b : Ex) (v : V) : Loose (askF (exOp oLt [a, b]) v) (askF (exOp oGt [b, a]) v) := by
  rw [askF_pair (by simp), askF_pair (by simp)]
  cases askF a v with
  | gone x w => cases askF b v with
    | gone y w' => exact .inr ⟨⟨x, w, rfl⟩, y, w', rfl⟩
    | val y => exact .inr ⟨⟨x, w, rfl⟩, x, w, rfl⟩
  | val x => cases askF b v with
    | gone y w' => exact .inr ⟨⟨y, w', rfl⟩, y, w', rfl⟩
    | val y =>
      simp only [bindO]
      rw [heldV_lt, heldV_gt]
      cases lessV x y with
      | none => exact .inr ⟨⟨0, 172, rfl⟩, 0, 172, rfl⟩
      | some r => exact .inl ⟨_, plainV.bool _, rfl, rfl⟩
theorem pair3 (a b : Ex) (v : V) : Loose (askF (exOp oEq [a, b]) v) (askF (exOp oEq [b, a]) v) := by
  rw [askF_pair (by simp), askF_pair (by simp)]
  cases askF a v with
  | gone x w => cases askF b v with
    | gone y w' => exact .inr ⟨⟨x, w, rfl⟩, y, w', rfl⟩
    | val y => exact .inr ⟨⟨x, w, rfl⟩, x, w, rfl⟩
  | val x => cases askF b v with
    | gone y w' => exact .inr ⟨⟨y, w', rfl⟩, y, w', rfl⟩
    | val y =>
      simp only [bindO]
      rw [heldV_eq, heldV_eq, equalV_symm y x]
      exact .inl ⟨_, plainV.bool _, rfl, rfl⟩
theorem pair4 (a b : Ex) (v : V) : Both (askF (exOp oNe [a, b]) v) (askF (exOp oNot [exOp oEq [a, b]]) v) := by
  rw [askF_not, askF_pair (by simp), askF_pair (by simp)]
  cases askF a v with
  | gone x w => exact .inr ⟨x, x, w, rfl, rfl⟩
  | val x => cases askF b v with
    | gone x w => exact .inr ⟨x, x, w, rfl, rfl⟩
    | val y =>
      simp only [bindO]
      rw [heldV_eq, heldV_ne]
      exact .inl ⟨_, plainV.bool _, rfl, rfl⟩
theorem good_of {a : Int} {x y : V} (h : goodV a x = .val y) : y = x ∧ (checkV x).2 = 0 := by
  unfold goodV at h
  split at h
  · rename_i hz; injection h with h; exact ⟨h.symm, hz⟩
  · cases h
theorem pick_val (f : V → Out) : ∀ (l o : List V) (y : V), eachF gPick 0 f l o = .val y → ∃ m, y = .list m ∧ (checkV (.list m)).2 = 0
  | [], o, y, h => by
    rw [eachF, if_neg (by decide), if_neg (by decide)] at h
    obtain ⟨rfl, hz⟩ := good_of h
    exact ⟨o, rfl, hz⟩
  | x :: r, o, y, h => by
    rw [eachF] at h
    cases hf : f x with
    | gone a w => rw [hf] at h; cases h
    | val z =>
      rw [hf] at h
      simp only [bindO] at h
      rw [if_neg (by decide)] at h
      split at h
      · rw [if_neg (fun h => absurd h.1 (by decide)), if_neg (fun h => absurd h.1 (by decide))] at h
        split at h
        · exact pick_val f r _ y h
        · exact pick_val f r _ y h
      · cases h
theorem map_self (f : V → Out) (hf : ∀ x, f x = .val x) : ∀ (l o : List V), eachF gMap 0 f l o = goodV 0 (.list (o ++ l))
  | [], o => by rw [eachF, if_neg (by decide), if_neg (by decide), List.append_nil]
  | x :: r, o => by
    rw [eachF, hf]
    simp only [bindO]
    rw [if_pos trivial, map_self f hf r, List.append_assoc]; rfl
theorem askF_len (p : Ex) (v : V) : askF (exCall gLen [p]) v = bindO (askF p v) (lengthV 0) := by
  rw [askF_call]; unfold callF
  show bindO (askF p v) _ = _
  congr 1
theorem pair5 (a b : Ex) (v : V) : Both (askF (exCall gLen [exCall gPick [a, b]]) v) (askF (exCall gLen [exCall gMap [exCall gPick [a, b], exOp oSelf []]]) v) := by
  rw [askF_len, askF_len, callF_turns (nm := gMap) (by decide)]
  have hp : ∀ y, askF (exCall gPick [a, b]) v = .val y → ∃ m, y = .list m ∧ (checkV (.list m)).2 = 0 := by
    intro y h
    rw [callF_turns (by decide)] at h
    cases ha : askF a v with
    | gone x w => rw [ha] at h; cases h
    | val x =>
      rw [ha] at h
      rcases list_or x with ⟨l, rfl⟩ | hn
      · exact pick_val _ l [] y h
      · cases x <;> first | cases h | exact absurd rfl (hn _)
  cases hq : askF (exCall gPick [a, b]) v with
  | gone x w => exact .inr ⟨x, x, w, rfl, rfl⟩
  | val y =>
    obtain ⟨m, rfl, hz⟩ := hp y hq
    simp only [bindO]
    rw [map_self _ askF_self, List.nil_append]
    have : goodV 0 (.list m) = .val (.list m) := by unfold goodV; rw [if_pos hz]
    rw [this]
    exact .inl ⟨_, plainV.int _, rfl, rfl⟩
/- What the law asks of a pair of answers. -/
def LawOK (strict : Prop) (p q : V × Int × Nat) : Prop :=
  (p.2.2 = 0 → q.2.2 = 0 → ∃ x, plainV x ∧ p.1 = x ∧ q.1 = x) ∧ (strict → (p.2.2 = 0 ↔ q.2.2 = 0) ∨ p.2.2 = 2 ∨ q.2.2 = 2 ∨ p.2.2 = 1 ∨ q.2.2 = 1)
theorem told_val (x : V) : told (.val x) = (if (checkV x).2 = 0 then x else .nil, 0, 0) := rfl
theorem plain_ite {x : V} (h : plainV x) (c : Prop) [Decidable c] : plainV (if c then x else .nil) := by
  by_cases hc : c
  · rw [if_pos hc]; exact h
  · rw [if_neg hc]; exact .inl rfl
theorem told_gone {a : Int} {w : Nat} (h : (told (.gone a w)).2.2 = 0) : (told (.gone a w)).1 = .nil := by
  show (if w = 0 then ((.nil, 0, 0) : V × Int × Nat) else (.nil, a, w)).1 = .nil
  split <;> rfl
theorem law_loose {e f : Ex} {v : V} (h : Loose (askF e v) (askF f v)) : LawOK False (evalR e v) (evalR f v) := by
  refine ⟨fun h1 h2 => ?_, fun h => h.elim⟩
  rcases evalR_cases e v with ⟨hz, he⟩ | ⟨hz, he⟩
  · rw [he] at h1; exact absurd h1 hz
  · rcases evalR_cases f v with ⟨hz', hf⟩ | ⟨hz', hf⟩
    · exact absurd hz hz'
    · rcases he with he | he | he
      · rw [he] at h1; cases h1
      · rw [he] at h1; cases h1
      · rcases hf with hf | hf | hf
        · rw [hf] at h2; cases h2
        · rw [hf] at h2; cases h2
        · rw [he] at h1 ⊢
          rw [hf] at h2 ⊢
          clear he hf
          rcases h with ⟨x, hx, e1, e2⟩ | ⟨⟨a, w, e1⟩, b, u, e2⟩
          · rw [e1, e2]
            exact ⟨_, plain_ite hx _, rfl, rfl⟩
          · rw [e1] at h1 ⊢
            rw [e2] at h2 ⊢
            exact ⟨.nil, .inl rfl, told_gone h1, told_gone h2⟩
theorem law_both {e f : Ex} {v : V} (h : Both (askF e v) (askF f v)) : LawOK True (evalR e v) (evalR f v) := by
  refine ⟨(law_loose h.loose).1, fun _ => ?_⟩
  rcases evalR_cases e v with ⟨hz, he⟩ | ⟨hz, he⟩
  · rcases evalR_cases f v with ⟨hz', hf⟩ | ⟨hz', hf⟩
    · rw [he, hf]; exact .inl Iff.rfl
    · exact absurd hz' hz
  · rcases he with he | he | he
    · exact .inr (.inr (.inr (.inl he)))
    · exact .inr (.inl he)
    · rcases evalR_cases f v with ⟨hz', hf⟩ | ⟨hz', hf⟩
      · exact absurd hz hz'
      · rcases hf with hf | hf | hf
        · exact .inr (.inr (.inr (.inr hf)))
        · exact .inr (.inr (.inl hf))
        · refine .inl ?_
          rw [he, hf]
          rcases h with ⟨x, hx, e1, e2⟩ | ⟨a, b, w, e1, e2⟩
          · rw [e1, e2]
          · rw [e1, e2]; unfold told; simp only []
            by_cases hw : w = 0
            · rw [if_pos hw, if_pos hw]
            · rw [if_neg hw, if_neg hw]
end Go.Proofs.YtbemeapjeipjlaaGreatDoor
/- The law of logic: its pairs of expressions, in any order. -/
namespace Go.Proofs.YtbemeapjeipjlaaGreatDoor
open Go Go.RowKit
def logicPairs (a b : Ex) : List (Ex × Ex) := [((exOp oNot [(exOp oAnd [a, b])]), (exOp oOr [(exOp oNot [a]), (exOp oNot [b])])), ((exOp oNot [(exCall gAny [a, b])]), (exCall gAll [a, (exOp oNot [b])])), ((exOp oLt [a, b]), (exOp oGt [b, a])), ((exOp oEq [a, b]), (exOp oEq [b, a])), ((exOp oNe [a, b]), (exOp oNot [(exOp oEq [a, b])])), ((exCall gLen [(exCall gPick [a, b])]), (exCall gLen [(exCall gMap [(exCall gPick [a, b]), (exOp oSelf [])])]))]
def logicK (a b : Ex) : Nat → K
  | 21 => .e a
  | 22 => .e b
  | 23 => .l [a, b]
  | 24 => .e (exOp oAnd [a, b])
  | 25 => .l [(exOp oAnd [a, b])]
  | 26 => .e (exOp oNot [(exOp oAnd [a, b])])
  | 27 => .e a
  | 28 => .l [a]
  | 29 => .e (exOp oNot [a])
  | 30 => .e b
  | 31 => .l [b]
  | 32 => .e (exOp oNot [b])
  | 33 => .l [(exOp oNot [a]), (exOp oNot [b])]
  | 34 => .e (exOp oOr [(exOp oNot [a]), (exOp oNot [b])])
  | 35 => .two (exOp oNot [(exOp oAnd [a, b])]) (exOp oOr [(exOp oNot [a]), (exOp oNot [b])])
  | 36 => .e a
  | 37 => .e b
  | 38 => .l [a, b]
  | 39 => .e (exCall gAny [a, b])
  | 40 => .l [(exCall gAny [a, b])]
  | 41 => .e (exOp oNot [(exCall gAny [a, b])])
  | 42 => .e a
  | 43 => .e b
  | 44 => .l [b]
  | 45 => .e (exOp oNot [b])
  | 46 => .l [a, (exOp oNot [b])]
  | 47 => .e (exCall gAll [a, (exOp oNot [b])])
  | 48 => .two (exOp oNot [(exCall gAny [a, b])]) (exCall gAll [a, (exOp oNot [b])])
  | 49 => .e a
  | 50 => .e b
  | 51 => .l [a, b]
  | 52 => .e (exOp oLt [a, b])
  | 53 => .e b
  | 54 => .e a
  | 55 => .l [b, a]
  | 56 => .e (exOp oGt [b, a])
  | 57 => .two (exOp oLt [a, b]) (exOp oGt [b, a])
  | 58 => .e a
  | 59 => .e b
  | 60 => .l [a, b]
  | 61 => .e (exOp oEq [a, b])
  | 62 => .e b
  | 63 => .e a
  | 64 => .l [b, a]
  | 65 => .e (exOp oEq [b, a])
  | 66 => .two (exOp oEq [a, b]) (exOp oEq [b, a])
  | 67 => .e a
  | 68 => .e b
  | 69 => .l [a, b]
  | 70 => .e (exOp oNe [a, b])
  | 71 => .e a
  | 72 => .e b
  | 73 => .l [a, b]
  | 74 => .e (exOp oEq [a, b])
  | 75 => .l [(exOp oEq [a, b])]
  | 76 => .e (exOp oNot [(exOp oEq [a, b])])
  | 77 => .two (exOp oNe [a, b]) (exOp oNot [(exOp oEq [a, b])])
  | 78 => .e a
  | 79 => .e b
  | 80 => .l [a, b]
  | 81 => .e (exCall gPick [a, b])
  | 82 => .l [(exCall gPick [a, b])]
  | 83 => .e (exCall gLen [(exCall gPick [a, b])])
  | 84 => .e a
  | 85 => .e b
  | 86 => .l [a, b]
  | 87 => .e (exCall gPick [a, b])
  | 88 => .e (exOp oSelf [])
  | 89 => .l [(exCall gPick [a, b]), (exOp oSelf [])]
  | 90 => .e (exCall gMap [(exCall gPick [a, b]), (exOp oSelf [])])
  | 91 => .l [(exCall gMap [(exCall gPick [a, b]), (exOp oSelf [])])]
  | 92 => .e (exCall gLen [(exCall gMap [(exCall gPick [a, b]), (exOp oSelf [])])])
  | 93 => .two (exCall gLen [(exCall gPick [a, b])]) (exCall gLen [(exCall gMap [(exCall gPick [a, b]), (exOp oSelf [])])])
  | 94 => .rows (logicPairs a b)
  | 8 => .rows (logicPairs a b)
  | _ => .any
abbrev logicDs : List Nat := [21, 22, 23, 24, 25, 26, 27, 28, 29, 30, 31, 32, 33, 34, 35, 36, 37, 38, 39, 40, 41, 42, 43, 44, 45, 46, 47, 48, 49, 50, 51, 52, 53, 54, 55, 56, 57, 58, 59, 60, 61, 62, 63, 64, 65, 66, 67, 68, 69, 70, 71, 72, 73, 74, 75, 76, 77, 78, 79, 80, 81, 82, 83, 84, 85, 86, 87, 88, 89, 90, 91, 92, 93, 94, 8]
abbrev logicNd : List (List Nat) := [[], [], [21, 22], [23], [24], [25], [], [27], [28], [], [30], [31], [29, 32], [33], [26, 34], [], [], [36, 37], [38], [39], [40], [], [], [43], [44], [42, 45], [46], [41, 47], [], [], [49, 50], [51], [], [], [53, 54], [55], [52, 56], [], [], [58, 59], [60], [], [], [62, 63], [64], [61, 65], [], [], [67, 68], [69], [], [], [71, 72], [73], [74], [75], [70, 76], [], [], [78, 79], [80], [81], [82], [], [], [84, 85], [86], [], [87, 88], [89], [90], [91], [83, 92], [35, 48, 57, 66, 77, 93], [94]]
theorem logic_law (a b : Ex) (v : V) : ∀ (i : Nat) (p : Ex × Ex), (logicPairs a b)[i]? = some p → LawOK (i ≠ 2 ∧ i ≠ 3) (evalR p.1 v) (evalR p.2 v) := by
  have loose : ∀ {p q : V × Int × Nat} {c : Prop}, LawOK False p q → ¬ c → LawOK c p q := fun h hc => ⟨h.1, fun h => absurd h hc⟩
  have both : ∀ {p q : V × Int × Nat} {c : Prop}, LawOK True p q → LawOK c p q := fun h => ⟨h.1, fun _ => h.2 trivial⟩
  intro i p hp
  match i, hp with
  | 0, hp => injection hp with hp; subst hp; exact both (law_both (pair0 a b v))
  | 1, hp => injection hp with hp; subst hp; exact both (law_both (pair1 a b v))
  | 2, hp => injection hp with hp; subst hp; exact loose (law_loose (pair2 a b v)) (by omega)
  | 3, hp => injection hp with hp; subst hp; exact loose (law_loose (pair3 a b v)) (by omega)
  | 4, hp => injection hp with hp; subst hp; exact both (law_both (pair4 a b v))
  | 5, hp => injection hp with hp; subst hp; exact both (law_both (pair5 a b v))
  | i + 6, hp => simp [logicPairs] at hp
end Go.Proofs.YtbemeapjeipjlaaGreatDoor
