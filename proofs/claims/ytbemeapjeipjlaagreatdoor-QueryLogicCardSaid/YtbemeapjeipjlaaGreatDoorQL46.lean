/- What an expression answers, but for how many are asked. -/
import Derived.Test.YtbemeapjeipjlaaGreatDoorQL43
import Derived.Test.YtbemeapjeipjlaaGreatDoorQL10
set_option linter.unusedVariables false
set_option linter.unusedSimpArgs false
namespace Go.Proofs.YtbemeapjeipjlaaGreatDoor
open Go Go.RowKit
/- It answers so, or too many were asked. -/
def IsO (r : Out × Nat) (o : Out) : Prop := (∃ a k, r = (.gone a 2, k)) ∨ (∃ k, k ≤ 1048576 ∧ r = (o, k))
def bindO (o : Out) (K : V → Out) : Out := match o with
  | .val x => K x
  | .gone a w => .gone a w
theorem IsO.le {o : Out} {k : Nat} (h : k ≤ 1048576) : IsO (o, k) o := .inr ⟨k, h, rfl⟩
theorem IsO.bind {r : Out × Nat} {o : Out} {K : V → Nat → Out × Nat} {J : V → Out} (h : IsO r o) (hK : ∀ x k, k ≤ 1048576 → IsO (K x k) (J x)) : IsO (bindA r K) (bindO o J) := by
  rcases h with ⟨a, k, rfl⟩ | ⟨k, hk, rfl⟩
  · exact .inl ⟨a, k, rfl⟩
  · cases o with
    | val x => exact hK x k hk
    | gone a w => exact .inr ⟨k, hk, rfl⟩
theorem IsO.ite {c : Prop} [Decidable c] {x y : Out × Nat} {o p : Out} (h1 : c → IsO x o) (h2 : ¬ c → IsO y p) : IsO (if c then x else y) (if c then o else p) := by
  by_cases h : c
  · rw [if_pos h, if_pos h]; exact h1 h
  · rw [if_neg h, if_neg h]; exact h2 h
def subF (l : List (V → Out)) (i : Nat) : V → Out := l.getD i fun _ => .gone 0 0
def logicF (a : Int) (or : Bool) : List (V → Out) → V → Out
  | [], _ => .val (.bool !or)
  | f :: r, v => bindO (f v) fun x => match x with
    | .bool b => if b = or then .val (.bool b) else logicF a or r v
    | _ => .gone a 172
noncomputable def listF (a : Int) : List (V → Out) → V → List V → Out
  | [], _, o => goodV a (.list o)
  | f :: r, v, o => bindO (f v) fun x => listF a r v (o ++ [x])
noncomputable def eachF (name : ByteArray) (a : Int) (f : V → Out) : List V → List V → Out
  | [], o => if name = gAny then .val (.bool false) else if name = gAll then .val (.bool true) else goodV a (.list o)
  | x :: r, o => bindO (f x) fun y =>
    if name = gMap then eachF name a f r (o ++ [y])
    else match y with
      | .bool b => if name = gAny ∧ b = true then .val (.bool true)
        else if name = gAll ∧ b = false then .val (.bool false)
        else if name = gPick ∧ b = true then eachF name a f r (o ++ [x])
        else eachF name a f r o
      | _ => .gone a 172
noncomputable def callF (name : ByteArray) (a : Int) (l : List (V → Out)) (v : V) : Out :=
  bindO (subF l 0 v) fun x =>
    if turnsB name = true then (match x with | .list xs => eachF name a (subF l 1) xs [] | _ => .gone a 172)
    else if name = gLen then lengthV a x
    else if name = gKind then .val (.text (kindWords.getD (kindV x) ⟨#[]⟩))
    else if name = gKeys then keysV a x
    else if name = gHas then bindO (subF l 1 v) fun y => hasV a x y
    else match x with | .list xs => listedV name a xs | _ => .gone a 172
noncomputable def stepF (op : ByteArray) (a : Int) (name : ByteArray) (t : Tm) (l : List (V → Out)) : V → Out := fun v =>
  if op = oValue then .val (literalV t)
  else if op = oSelf then .val v
  else if op = oField then fieldV a v name
  else if op = oDot then bindO (subF l 0 v) fun x => fieldV a x name
  else if op = oOr then logicF a true l v
  else if op = oAnd then logicF a false l v
  else if op = oNot then bindO (subF l 0 v) fun x => notV a x
  else if op = oIs then bindO (subF l 0 v) fun x => .val (.bool (decide ((kindV x : Int) = idxW kindWords name 0)))
  else if op = oNeg then bindO (subF l 0 v) fun x => negV a x
  else if op = oList then listF a l v []
  else if op = oCall then callF name a l v
  else bindO (subF l 0 v) fun x => bindO (subF l 1 v) fun y => pairV op a x y
mutual
noncomputable def askF : Ex → V → Out
  | .mk op a l name t => stepF op a name t (askFL l)
noncomputable def askFL : List Ex → List (V → Out)
  | [] => []
  | x :: r => askF x :: askFL r
end
def AnsC (f : Ask) (g : V → Out) : Prop := ∀ v n, n ≤ 1048576 → IsO (f v n) (g v)
theorem sub_is (ps : List Ex) (ih : ∀ p ∈ ps, AnsC (askV p) (askF p)) (i : Nat) : AnsC (subA (askL ps) i) (subF (askFL ps) i) := by
  unfold subA subF
  induction ps generalizing i with
  | nil => intro v n hn; exact .inr ⟨n, hn, rfl⟩
  | cons p r h =>
    cases i with
    | zero => exact ih p (by simp)
    | succ i => exact h (fun q hq => ih q (by simp [hq])) i
theorem logic_is (a : Int) (or : Bool) (ps : List Ex) (ih : ∀ p ∈ ps, AnsC (askV p) (askF p)) : AnsC (logicA a or (askL ps)) (logicF a or (askFL ps)) := by
  induction ps with
  | nil => intro v n hn; exact .inr ⟨n, hn, rfl⟩
  | cons p r h =>
    intro v n hn
    rw [askL, askFL, logicA, logicF]
    refine (ih p (by simp) v n hn).bind fun x k hk => ?_
    cases x with
    | bool b => exact IsO.ite (fun _ => IsO.le hk) (fun _ => h (fun q hq => ih q (by simp [hq])) v k hk)
    | _ => exact IsO.le hk
theorem list_is (a : Int) (ps : List Ex) (ih : ∀ p ∈ ps, AnsC (askV p) (askF p)) : ∀ o v n, n ≤ 1048576 → IsO (listA a (askL ps) v o n) (listF a (askFL ps) v o) := by
  induction ps with
  | nil => intro o v n hn; exact .inr ⟨n, hn, rfl⟩
  | cons p r h =>
    intro o v n hn
    rw [askL, askFL, listA, listF]
    exact (ih p (by simp) v n hn).bind fun x k hk => h (fun q hq => ih q (by simp [hq])) _ v k hk
theorem each_is (name : ByteArray) (a : Int) {f : Ask} {g : V → Out} (h : AnsC f g) : ∀ l o n, n ≤ 1048576 → IsO (eachA name a f l o n) (eachF name a g l o)
  | [], o, n, hn => .inr ⟨n, hn, rfl⟩
  | x :: r, o, n, hn => by
    rw [eachA, eachF]
    refine (h x n hn).bind fun y k hk => ?_
    refine IsO.ite (fun _ => each_is name a h r _ k hk) (fun _ => ?_)
    cases y with
    | bool b => exact IsO.ite (fun _ => IsO.le hk) (fun _ => IsO.ite (fun _ => IsO.le hk) (fun _ => IsO.ite (fun _ => each_is name a h r _ k hk) (fun _ => each_is name a h r _ k hk)))
    | _ => exact IsO.le hk
theorem call_is (name : ByteArray) (a : Int) (ps : List Ex) (ih : ∀ p ∈ ps, AnsC (askV p) (askF p)) : AnsC (callA name a (askL ps)) (callF name a (askFL ps)) := by
  intro v n hn
  unfold callA callF
  refine (sub_is ps ih 0 v n hn).bind fun x k hk => ?_
  refine IsO.ite (fun _ => ?_) (fun _ => IsO.ite (fun _ => IsO.le hk) (fun _ => IsO.ite (fun _ => IsO.le hk) (fun _ => IsO.ite (fun _ => IsO.le hk) (fun _ => IsO.ite (fun _ => ?_) (fun _ => ?_)))))
  · cases x with
    | list l => exact each_is name a (sub_is ps ih 1) _ _ k hk
    | _ => exact IsO.le hk
  rotate_left
  · cases x with
    | list l => exact IsO.le hk
    | _ => exact IsO.le hk
  · exact (sub_is ps ih 1 v k hk).bind fun y m hm => IsO.le hm
theorem step_is (op : ByteArray) (a : Int) (name : ByteArray) (t : Tm) (ps : List Ex) (ih : ∀ p ∈ ps, AnsC (askV p) (askF p)) : AnsC (stepA op a name t (askL ps)) (stepF op a name t (askFL ps)) := by
  intro v n hn
  unfold stepA stepF
  by_cases h0 : 1048576 < n + 1
  · rw [if_pos h0]; exact .inl ⟨a, n + 1, rfl⟩
  have h1 : n + 1 ≤ 1048576 := by omega
  rw [if_neg h0]
  refine IsO.ite (fun _ => IsO.le h1) fun _ => ?_
  refine IsO.ite (fun _ => IsO.le h1) fun _ => ?_
  refine IsO.ite (fun _ => IsO.le h1) fun _ => ?_
  refine IsO.ite (fun _ => (sub_is ps ih 0 v _ h1).bind fun x k hk => IsO.le hk) fun _ => ?_
  refine IsO.ite (fun _ => logic_is a true ps ih v _ h1) fun _ => ?_
  refine IsO.ite (fun _ => logic_is a false ps ih v _ h1) fun _ => ?_
  refine IsO.ite (fun _ => (sub_is ps ih 0 v _ h1).bind fun x k hk => IsO.le hk) fun _ => ?_
  refine IsO.ite (fun _ => (sub_is ps ih 0 v _ h1).bind fun x k hk => IsO.le hk) fun _ => ?_
  refine IsO.ite (fun _ => (sub_is ps ih 0 v _ h1).bind fun x k hk => IsO.le hk) fun _ => ?_
  refine IsO.ite (fun _ => list_is a ps ih [] v _ h1) fun _ => ?_
  refine IsO.ite (fun _ => call_is name a ps ih v _ h1) fun _ => ?_
  exact (sub_is ps ih 0 v _ h1).bind fun x k hk => (sub_is ps ih 1 v k hk).bind fun y m hm => IsO.le hm
theorem askF_is (e : Ex) : AnsC (askV e) (askF e) := by
  induction e using Ex.ind with
  | h op a l n t ih =>
    rw [askV, askF]
    exact step_is op a n t l ih
/- What is told of it. -/
noncomputable def told (o : Out) : V × Int × Nat := match o with
  | .val x => (if (checkV x).2 = 0 then x else .nil, 0, 0)
  | .gone a w => if w = 0 then (.nil, 0, 0) else (.nil, a, w)
theorem evalR_cases (e : Ex) (v : V) : ((checkV v).2 ≠ 0 ∧ evalR e v = (.nil, 0, (checkV v).2)) ∨ ((checkV v).2 = 0 ∧ ((evalR e v).2.2 = 1 ∨ (evalR e v).2.2 = 2 ∨ evalR e v = told (askF e v))) := by
  by_cases hz : (checkV v).2 = 0
  · refine .inr ⟨hz, ?_⟩
    cases hval : validV e with
    | false =>
      refine .inl ?_
      have : evalV e v = (.nil, 0, 1) := by unfold evalV; rw [if_neg (by omega), if_pos hval]
      unfold evalR; rw [this]; rfl
    | true =>
      refine .inr ?_
      have hE : evalV e v = match (askV e v 0).1 with | .val x => (x, 0, 0) | .gone a why => (.nil, a, why) := by
        unfold evalV; rw [if_neg (by omega), if_neg (by simp [hval])]; rfl
      rcases askF_is e v 0 (by omega) with ⟨a, k, h⟩ | ⟨k, _, h⟩
      · rw [h] at hE
        refine .inl ?_
        unfold evalR; rw [hE]; rfl
      · rw [h] at hE
        refine .inr ?_
        unfold evalR
        rw [hE]
        cases askF e v with
        | val x => simp [told]
        | gone a w => 
          simp only [told]
          by_cases hw : w = 0
          · subst hw; simp
          · rw [if_pos hw, if_neg hw]
  · refine .inl ⟨hz, ?_⟩
    have : evalV e v = (.nil, 0, (checkV v).2) := by unfold evalV; rw [if_pos hz]
    unfold evalR; rw [this]; exact if_pos hz
theorem ordI_zero_iff {a b : Int} : ordI a b = 0 ↔ a = b := by unfold ordI; split <;> (try split) <;> omega
theorem thenI_zero_iff {a b : Int} : thenI a b = 0 ↔ a = 0 ∧ b = 0 := by
  unfold thenI; split
  · rename_i h; simp [h]
  · rename_i h; simp [h]
theorem ordS_zero {a b : ByteArray} (h : ordS a b = 0) : a = b := by
  unfold ordS at h
  split at h
  · omega
  · split at h
    · rename_i h2
      have h3 := eq_of_beq h2
      rw [bytes_toList, bytes_toList] at h3
      cases a with
      | mk x => cases b with
        | mk y => exact congrArg _ (Array.ext' h3)
    · omega
theorem ordB_symm : ∀ {a b : List UInt8}, ordB a b = 0 → ordB b a = 0
  | [], [], _ => rfl
  | [], _ :: _, h => by simp [ordB] at h
  | _ :: _, [], h => by simp [ordB] at h
  | x :: r, y :: s, h => by
    rw [ordB, thenI_zero_iff, ordI_zero_iff] at *
    exact ⟨h.1.symm, ordB_symm h.2⟩
theorem ordL_symm (l : List V) (ih : ∀ x ∈ l, ∀ y, ordV x y = 0 → ordV y x = 0) : ∀ m, ordL l m = 0 → ordL m l = 0 := by
  induction l with
  | nil => intro m h; cases m with
    | nil => rfl
    | cons y s => simp [ordL] at h
  | cons x r hr => intro m h; cases m with
    | nil => simp [ordL] at h
    | cons y s =>
      rw [ordL, thenI_zero_iff] at *
      exact ⟨ih x (by simp) y h.1, hr (fun z hz => ih z (by simp [hz])) s h.2⟩
theorem ordD_symm (l : List (ByteArray × V)) (ih : ∀ p ∈ l, ∀ y, ordV p.2 y = 0 → ordV y p.2 = 0) : ∀ m, ordD l m = 0 → ordD m l = 0 := by
  induction l with
  | nil => intro m h; cases m with
    | nil => rfl
    | cons y s => simp [ordD] at h
  | cons x r hr => intro m h; cases m with
    | nil => simp [ordD] at h
    | cons y s =>
      obtain ⟨n, x⟩ := x
      obtain ⟨k, y⟩ := y
      rw [ordD, thenI_zero_iff, thenI_zero_iff] at *
      have e := ordS_zero h.1.1
      subst e
      exact ⟨⟨h.1.1, ih (n, x) (by simp) y h.1.2⟩, hr (fun z hz => ih z (by simp [hz])) s h.2⟩
theorem ordV_symm (a : V) : ∀ b, ordV a b = 0 → ordV b a = 0 := by
  have kinds : ∀ a b : V, kindV a ≠ kindV b → ordV a b = 0 → ordV b a = 0 := by
    intro a b hk h
    rw [ordV_kinds hk, ordI_zero_iff] at h
    exact absurd (by omega) hk
  induction a using V.ind with
  | h7 l ih => intro b h; cases b with
    | list m => exact ordL_symm l ih m h
    | _ => exact kinds _ _ (by simp [kindV]) h
  | h8 l ih => intro b h; cases b with
    | dict m => exact ordD_symm l ih m h
    | _ => exact kinds _ _ (by simp [kindV]) h
  | h9 c v l ih => intro b h; cases b with
    | record c' v' m =>
      rw [ordV, thenI_zero_iff, thenI_zero_iff, ordI_zero_iff] at *
      have e := ordS_zero h.1
      subst e
      exact ⟨h.1, h.2.1.symm, ordD_symm l ih m h.2.2⟩
    | _ => exact kinds _ _ (by simp [kindV]) h
  | h4 s => intro b h; cases b with
    | text t => have e := ordS_zero (show ordS s t = 0 from h); subst e; exact h
    | _ => exact kinds _ _ (by simp [kindV]) h
  | h5 l => intro b h; cases b with
    | bytes m => exact ordB_symm (show ordB l m = 0 from h)
    | _ => exact kinds _ _ (by simp [kindV]) h
  | h1 x => intro b h; cases b with
    | bool y => rw [ordV, ordI_zero_iff] at *; exact h.symm
    | _ => exact kinds _ _ (by simp [kindV]) h
  | h2 x => intro b h; cases b with
    | int y => rw [ordV, ordI_zero_iff] at *; exact h.symm
    | _ => exact kinds _ _ (by simp [kindV]) h
  | h3 x => intro b h; cases b with
    | flt y => rw [ordV, ordI_zero_iff] at *; exact h.symm
    | _ => exact kinds _ _ (by simp [kindV]) h
  | h6 x => intro b h; cases b with
    | ref y => rw [ordV, ordI_zero_iff] at *; exact h.symm
    | _ => exact kinds _ _ (by simp [kindV]) h
  | h0 => intro b h; cases b with
    | nil => exact h
    | _ => exact kinds _ _ (by simp [kindV]) h
  | h10 => intro b h; cases b with
    | nothing => exact h
    | _ => exact kinds _ _ (by simp [kindV]) h
  | h11 => intro b h; cases b with
    | alien => exact h
    | _ => exact kinds _ _ (by simp [kindV]) h
theorem sameV_symm (a b : V) : sameV a b = sameV b a := by
  unfold sameV
  rw [show decide (ordV a b = 0) = decide (ordV b a = 0) from decide_eq_decide.2 ⟨ordV_symm a b, ordV_symm b a⟩]
  cases decide ((checkV a).2 = 0) <;> cases decide ((checkV b).2 = 0) <;> rfl
theorem equalV_symm (a b : V) : equalV a b = equalV b a := by
  cases a <;> cases b <;> first | rfl | exact sameV_symm _ _
end Go.Proofs.YtbemeapjeipjlaaGreatDoor
/- The term of a value (mk.Plain), as a plain function; walks: the leaves. -/
namespace Go.Proofs.YtbemeapjeipjlaaGreatDoor
open Go Go.RowKit
attribute [local go_sem] ta_no_bool ta_yes_bool ta_nil_bool ta_no_int64 ta_yes_int64 ta_nil_int64 ta_no_flt ta_yes_flt ta_nil_flt ta_no_str ta_yes_str ta_nil_str ta_no_byt ta_yes_byt ta_nil_byt ta_no_ref ta_yes_ref ta_nil_ref ta_no_lst ta_yes_lst ta_nil_lst ta_no_dct ta_yes_dct ta_nil_dct ta_no_rec ta_yes_rec ta_nil_rec
mutual
/- The term of a value, so deep and no deeper. -/
def plainT : V → Nat → Tm
  | x, d => if 400 < d then .mk 0 false 0 0 ⟨#[]⟩ [] 0 [] [] ⟨#[]⟩ 0 else match x with
    | .nil => .mk 1 false 0 0 ⟨#[]⟩ [] 0 [] [] ⟨#[]⟩ 0
    | .bool b => .mk 2 b 0 0 ⟨#[]⟩ [] 0 [] [] ⟨#[]⟩ 0
    | .int n => .mk 3 false n 0 ⟨#[]⟩ [] 0 [] [] ⟨#[]⟩ 0
    | .flt f => .mk 4 false 0 f ⟨#[]⟩ [] 0 [] [] ⟨#[]⟩ 0
    | .text s => .mk 5 false 0 0 s [] 0 [] [] ⟨#[]⟩ 0
    | .bytes l => .mk 6 false 0 0 ⟨#[]⟩ l 0 [] [] ⟨#[]⟩ 0
    | .ref n => .mk 7 false 0 0 ⟨#[]⟩ [] n [] [] ⟨#[]⟩ 0
    | .list l => .mk 8 false 0 0 ⟨#[]⟩ [] 0 (plainL l (d + 1)) [] ⟨#[]⟩ 0
    | .dict l => .mk 9 false 0 0 ⟨#[]⟩ [] 0 [] (plainD l (d + 1)) ⟨#[]⟩ 0
    | .record c v l => .mk 10 false 0 0 ⟨#[]⟩ [] 0 [] (plainD l (d + 1)) c v
    | .nothing => .mk 11 false 0 0 ⟨#[]⟩ [] 0 [] [] ⟨#[]⟩ 0
    | .alien => .mk 0 false 0 0 ⟨#[]⟩ [] 0 [] [] ⟨#[]⟩ 0
def plainL : List V → Nat → List Tm
  | [], _ => []
  | x :: r, d => plainT x d :: plainL r d
def plainD : List (ByteArray × V) → Nat → List (ByteArray × Tm)
  | [], _ => []
  | (n, x) :: r, d => (n, plainT x d) :: plainD r d
end
theorem plainL_eq (l : List V) (d : Nat) : plainL l d = l.map (plainT · d) := by
  induction l with
  | nil => rfl
  | cons x r ih => simp [plainL, ih]
theorem plainD_eq (l : List (ByteArray × V)) (d : Nat) : plainD l d = l.map fun p => (p.1, plainT p.2 d) := by
  induction l with
  | nil => rfl
  | cons x r ih => obtain ⟨n, x⟩ := x; simp [plainD, ih]
def TermPost (t : Tm) (w : World) (e : Ending) (w' : World) : Prop := ∃ y, e = .returned (termOf y) ∧ RdTS w' (New w w') t y ∧ Below w.heap.size w w'
set_option maxRecDepth 100000 in
set_option maxHeartbeats 1000000 in
theorem plainX_nil (d : Nat) (hd : d ≤ 400) (w : World) : Calls Tryz.prog 31 #[.nilIface, .int .i64 d] w (fun e w' => e = .returned (.agg #[.int .i64 1, .bool false, .int .i64 0, .float .f64 0, .string ⟨#[]⟩, .slice none 0 0, .int .u64 0, .slice none 0 0, .slice none 0 0, .string ⟨#[]⟩, .int .i64 0]) ∧ Below w.heap.size w w') := by
  have hq : decide ((400 : Int) < (d : Int)) = false := by simp; omega
  have o0 := fun (W : World) (a : Addr) (m : Mode) (x : Nat) => run_store Tryz.prog W a (.float .f64 x) m rfl
  go_enter Tryz.func31, Tryz.ntmps31
  go_wp2
  (try simp only [Exit.inBlock, Exit.then]); refine bodyPost_ret (v := .agg #[.int .i64 1, .bool false, .int .i64 0, .float .f64 0, .string ⟨#[]⟩, .slice none 0 0, .int .u64 0, .slice none 0 0, .slice none 0 0, .string ⟨#[]⟩, .int .i64 0]) (by simp [results, Tryz.results31, go_sem]) rfl ?_
  exact ⟨rfl, ((Below.refl _ _).alloc (Nat.le_refl _) _)⟩
theorem plain_nil (d : Nat) (hd : d ≤ 400) (w : World) : Calls Tryz.prog 31 #[.nilIface, .int .i64 d] w (TermPost (plainT .nil d) w) := by
  have hT : plainT .nil d = .mk 1 false 0 0 ⟨#[]⟩ [] 0 [] [] ⟨#[]⟩ 0 := by rw [plainT, if_neg (by omega)]
  rw [hT]
  refine (plainX_nil  d hd w).mono ?_
  rintro e w' ⟨rfl, hb⟩
  exact ⟨[.int .i64 1, .bool false, .int .i64 0, .float .f64 0, .string ⟨#[]⟩, .slice none 0 0, .int .u64 0, .slice none 0 0, .slice none 0 0, .string ⟨#[]⟩, .int .i64 0], rfl, ⟨none, 0, none, 0, none, 0, rfl, ⟨by decide, by decide⟩, ⟨by decide, by decide⟩, by decide, by decide, ⟨fun _ => rfl, .inl rfl⟩, by decide, by decide, by decide, ⟨by decide, by decide⟩, ⟨by decide, .inl rfl⟩, ⟨by decide, .inl rfl⟩⟩, hb⟩
set_option maxRecDepth 100000 in
set_option maxHeartbeats 1000000 in
theorem plainX_bool (b : Bool) (d : Nat) (hd : d ≤ 400) (w : World) : Calls Tryz.prog 31 #[.iface 4 (.bool b), .int .i64 d] w (fun e w' => e = .returned (.agg #[.int .i64 2, .bool b, .int .i64 0, .float .f64 0, .string ⟨#[]⟩, .slice none 0 0, .int .u64 0, .slice none 0 0, .slice none 0 0, .string ⟨#[]⟩, .int .i64 0]) ∧ Below w.heap.size w w') := by
  have hq : decide ((400 : Int) < (d : Int)) = false := by simp; omega
  have o0 := fun (W : World) (a : Addr) (m : Mode) (x : Nat) => run_store Tryz.prog W a (.float .f64 x) m rfl
  go_enter Tryz.func31, Tryz.ntmps31
  go_wp2
  (try simp only [Exit.inBlock, Exit.then]); refine bodyPost_ret (v := .agg #[.int .i64 2, .bool b, .int .i64 0, .float .f64 0, .string ⟨#[]⟩, .slice none 0 0, .int .u64 0, .slice none 0 0, .slice none 0 0, .string ⟨#[]⟩, .int .i64 0]) (by simp [results, Tryz.results31, go_sem]) rfl ?_
  exact ⟨rfl, ((Below.refl _ _).alloc (Nat.le_refl _) _)⟩
theorem plain_bool (b : Bool) (d : Nat) (hd : d ≤ 400) (w : World) : Calls Tryz.prog 31 #[.iface 4 (.bool b), .int .i64 d] w (TermPost (plainT (.bool b) d) w) := by
  have hT : plainT (.bool b) d = .mk 2 b 0 0 ⟨#[]⟩ [] 0 [] [] ⟨#[]⟩ 0 := by rw [plainT, if_neg (by omega)]
  rw [hT]
  refine (plainX_bool b d hd w).mono ?_
  rintro e w' ⟨rfl, hb⟩
  exact ⟨[.int .i64 2, .bool b, .int .i64 0, .float .f64 0, .string ⟨#[]⟩, .slice none 0 0, .int .u64 0, .slice none 0 0, .slice none 0 0, .string ⟨#[]⟩, .int .i64 0], rfl, ⟨none, 0, none, 0, none, 0, rfl, ⟨by decide, by decide⟩, ⟨by decide, by decide⟩, by decide, by decide, ⟨fun _ => rfl, .inl rfl⟩, by decide, by decide, by decide, ⟨by decide, by decide⟩, ⟨by decide, .inl rfl⟩, ⟨by decide, .inl rfl⟩⟩, hb⟩
set_option maxRecDepth 100000 in
set_option maxHeartbeats 1000000 in
theorem plainX_int (n : Int) (d : Nat) (hd : d ≤ 400) (hn : i64B n) (w : World) : Calls Tryz.prog 31 #[.iface 2 (.int .i64 n), .int .i64 d] w (fun e w' => e = .returned (.agg #[.int .i64 3, .bool false, .int .i64 n, .float .f64 0, .string ⟨#[]⟩, .slice none 0 0, .int .u64 0, .slice none 0 0, .slice none 0 0, .string ⟨#[]⟩, .int .i64 0]) ∧ Below w.heap.size w w') := by
  have hq : decide ((400 : Int) < (d : Int)) = false := by simp; omega
  have o0 := fun (W : World) (a : Addr) (m : Mode) (x : Nat) => run_store Tryz.prog W a (.float .f64 x) m rfl
  go_enter Tryz.func31, Tryz.ntmps31
  go_wp2
  (try simp only [Exit.inBlock, Exit.then]); refine bodyPost_ret (v := .agg #[.int .i64 3, .bool false, .int .i64 n, .float .f64 0, .string ⟨#[]⟩, .slice none 0 0, .int .u64 0, .slice none 0 0, .slice none 0 0, .string ⟨#[]⟩, .int .i64 0]) (by simp [results, Tryz.results31, go_sem]) rfl ?_
  exact ⟨rfl, ((Below.refl _ _).alloc (Nat.le_refl _) _)⟩
theorem plain_int (n : Int) (d : Nat) (hd : d ≤ 400) (hn : i64B n) (w : World) : Calls Tryz.prog 31 #[.iface 2 (.int .i64 n), .int .i64 d] w (TermPost (plainT (.int n) d) w) := by
  have hT : plainT (.int n) d = .mk 3 false n 0 ⟨#[]⟩ [] 0 [] [] ⟨#[]⟩ 0 := by rw [plainT, if_neg (by omega)]
  rw [hT]
  refine (plainX_int n d hd hn w).mono ?_
  rintro e w' ⟨rfl, hb⟩
  exact ⟨[.int .i64 3, .bool false, .int .i64 n, .float .f64 0, .string ⟨#[]⟩, .slice none 0 0, .int .u64 0, .slice none 0 0, .slice none 0 0, .string ⟨#[]⟩, .int .i64 0], rfl, ⟨none, 0, none, 0, none, 0, rfl, ⟨by decide, by decide⟩, hn, by decide, by decide, ⟨fun _ => rfl, .inl rfl⟩, by decide, by decide, by decide, ⟨by decide, by decide⟩, ⟨by decide, .inl rfl⟩, ⟨by decide, .inl rfl⟩⟩, hb⟩
set_option maxRecDepth 100000 in
set_option maxHeartbeats 1000000 in
theorem plainX_flt (f : Nat) (d : Nat) (hd : d ≤ 400) (w : World) : Calls Tryz.prog 31 #[.iface 23 (.float .f64 f), .int .i64 d] w (fun e w' => e = .returned (.agg #[.int .i64 4, .bool false, .int .i64 0, .float .f64 f, .string ⟨#[]⟩, .slice none 0 0, .int .u64 0, .slice none 0 0, .slice none 0 0, .string ⟨#[]⟩, .int .i64 0]) ∧ Below w.heap.size w w') := by
  have hq : decide ((400 : Int) < (d : Int)) = false := by simp; omega
  have o0 := fun (W : World) (a : Addr) (m : Mode) (x : Nat) => run_store Tryz.prog W a (.float .f64 x) m rfl
  go_enter Tryz.func31, Tryz.ntmps31
  go_wp2
  (try simp only [Exit.inBlock, Exit.then]); refine bodyPost_ret (v := .agg #[.int .i64 4, .bool false, .int .i64 0, .float .f64 f, .string ⟨#[]⟩, .slice none 0 0, .int .u64 0, .slice none 0 0, .slice none 0 0, .string ⟨#[]⟩, .int .i64 0]) (by simp [results, Tryz.results31, go_sem]) rfl ?_
  exact ⟨rfl, ((Below.refl _ _).alloc (Nat.le_refl _) _)⟩
theorem plain_flt (f : Nat) (d : Nat) (hd : d ≤ 400) (w : World) : Calls Tryz.prog 31 #[.iface 23 (.float .f64 f), .int .i64 d] w (TermPost (plainT (.flt f) d) w) := by
  have hT : plainT (.flt f) d = .mk 4 false 0 f ⟨#[]⟩ [] 0 [] [] ⟨#[]⟩ 0 := by rw [plainT, if_neg (by omega)]
  rw [hT]
  refine (plainX_flt f d hd w).mono ?_
  rintro e w' ⟨rfl, hb⟩
  exact ⟨[.int .i64 4, .bool false, .int .i64 0, .float .f64 f, .string ⟨#[]⟩, .slice none 0 0, .int .u64 0, .slice none 0 0, .slice none 0 0, .string ⟨#[]⟩, .int .i64 0], rfl, ⟨none, 0, none, 0, none, 0, rfl, ⟨by decide, by decide⟩, ⟨by decide, by decide⟩, by decide, by decide, ⟨fun _ => rfl, .inl rfl⟩, by decide, by decide, by decide, ⟨by decide, by decide⟩, ⟨by decide, .inl rfl⟩, ⟨by decide, .inl rfl⟩⟩, hb⟩
set_option maxRecDepth 100000 in
set_option maxHeartbeats 1000000 in
theorem plainX_text (s : ByteArray) (d : Nat) (hd : d ≤ 400) (hs : s.size ≤ 140737488351232) (w : World) : Calls Tryz.prog 31 #[.iface 9 (.string s), .int .i64 d] w (fun e w' => e = .returned (.agg #[.int .i64 5, .bool false, .int .i64 0, .float .f64 0, .string s, .slice none 0 0, .int .u64 0, .slice none 0 0, .slice none 0 0, .string ⟨#[]⟩, .int .i64 0]) ∧ Below w.heap.size w w') := by
  have hq : decide ((400 : Int) < (d : Int)) = false := by simp; omega
  have o0 := fun (W : World) (a : Addr) (m : Mode) (x : Nat) => run_store Tryz.prog W a (.float .f64 x) m rfl
  go_enter Tryz.func31, Tryz.ntmps31
  go_wp2
  (try simp only [Exit.inBlock, Exit.then]); refine bodyPost_ret (v := .agg #[.int .i64 5, .bool false, .int .i64 0, .float .f64 0, .string s, .slice none 0 0, .int .u64 0, .slice none 0 0, .slice none 0 0, .string ⟨#[]⟩, .int .i64 0]) (by simp [results, Tryz.results31, go_sem]) rfl ?_
  exact ⟨rfl, ((Below.refl _ _).alloc (Nat.le_refl _) _)⟩
theorem plain_text (s : ByteArray) (d : Nat) (hd : d ≤ 400) (hs : s.size ≤ 140737488351232) (w : World) : Calls Tryz.prog 31 #[.iface 9 (.string s), .int .i64 d] w (TermPost (plainT (.text s) d) w) := by
  have hT : plainT (.text s) d = .mk 5 false 0 0 s [] 0 [] [] ⟨#[]⟩ 0 := by rw [plainT, if_neg (by omega)]
  rw [hT]
  refine (plainX_text s d hd hs w).mono ?_
  rintro e w' ⟨rfl, hb⟩
  exact ⟨[.int .i64 5, .bool false, .int .i64 0, .float .f64 0, .string s, .slice none 0 0, .int .u64 0, .slice none 0 0, .slice none 0 0, .string ⟨#[]⟩, .int .i64 0], rfl, ⟨none, 0, none, 0, none, 0, rfl, ⟨by decide, by decide⟩, ⟨by decide, by decide⟩, hs, by decide, ⟨fun _ => rfl, .inl rfl⟩, by decide, by decide, by decide, ⟨by decide, by decide⟩, ⟨by decide, .inl rfl⟩, ⟨by decide, .inl rfl⟩⟩, hb⟩
set_option maxRecDepth 100000 in
set_option maxHeartbeats 1000000 in
theorem plainX_ref (n : Int) (d : Nat) (hd : d ≤ 400) (hn : 0 ≤ n) (hn2 : n ≤ 18446744073709551615) (w : World) : Calls Tryz.prog 31 #[.iface 26 (.int .u64 n), .int .i64 d] w (fun e w' => e = .returned (.agg #[.int .i64 7, .bool false, .int .i64 0, .float .f64 0, .string ⟨#[]⟩, .slice none 0 0, .int .u64 n, .slice none 0 0, .slice none 0 0, .string ⟨#[]⟩, .int .i64 0]) ∧ Below w.heap.size w w') := by
  have hq : decide ((400 : Int) < (d : Int)) = false := by simp; omega
  have o0 := fun (W : World) (a : Addr) (m : Mode) (x : Nat) => run_store Tryz.prog W a (.float .f64 x) m rfl
  go_enter Tryz.func31, Tryz.ntmps31
  go_wp2
  (try simp only [Exit.inBlock, Exit.then]); refine bodyPost_ret (v := .agg #[.int .i64 7, .bool false, .int .i64 0, .float .f64 0, .string ⟨#[]⟩, .slice none 0 0, .int .u64 n, .slice none 0 0, .slice none 0 0, .string ⟨#[]⟩, .int .i64 0]) (by simp [results, Tryz.results31, go_sem]) rfl ?_
  exact ⟨rfl, ((Below.refl _ _).alloc (Nat.le_refl _) _)⟩
theorem plain_ref (n : Int) (d : Nat) (hd : d ≤ 400) (hn : 0 ≤ n) (hn2 : n ≤ 18446744073709551615) (w : World) : Calls Tryz.prog 31 #[.iface 26 (.int .u64 n), .int .i64 d] w (TermPost (plainT (.ref n) d) w) := by
  have hT : plainT (.ref n) d = .mk 7 false 0 0 ⟨#[]⟩ [] n [] [] ⟨#[]⟩ 0 := by rw [plainT, if_neg (by omega)]
  rw [hT]
  refine (plainX_ref n d hd hn hn2 w).mono ?_
  rintro e w' ⟨rfl, hb⟩
  exact ⟨[.int .i64 7, .bool false, .int .i64 0, .float .f64 0, .string ⟨#[]⟩, .slice none 0 0, .int .u64 n, .slice none 0 0, .slice none 0 0, .string ⟨#[]⟩, .int .i64 0], rfl, ⟨none, 0, none, 0, none, 0, rfl, ⟨by decide, by decide⟩, ⟨by decide, by decide⟩, by decide, by decide, ⟨fun _ => rfl, .inl rfl⟩, hn, hn2, by decide, ⟨by decide, by decide⟩, ⟨by decide, .inl rfl⟩, ⟨by decide, .inl rfl⟩⟩, hb⟩
set_option maxRecDepth 100000 in
set_option maxHeartbeats 1000000 in
theorem plainX_nothing (d : Nat) (hd : d ≤ 400) (w : World) : Calls Tryz.prog 31 #[.iface 75 (.pointer none), .int .i64 d] w (fun e w' => e = .returned (.agg #[.int .i64 11, .bool false, .int .i64 0, .float .f64 0, .string ⟨#[]⟩, .slice none 0 0, .int .u64 0, .slice none 0 0, .slice none 0 0, .string ⟨#[]⟩, .int .i64 0]) ∧ Below w.heap.size w w') := by
  have hq : decide ((400 : Int) < (d : Int)) = false := by simp; omega
  have o0 := fun (W : World) (a : Addr) (m : Mode) (x : Nat) => run_store Tryz.prog W a (.float .f64 x) m rfl
  go_enter Tryz.func31, Tryz.ntmps31
  go_wp2
  (try simp only [Exit.inBlock, Exit.then]); refine bodyPost_ret (v := .agg #[.int .i64 11, .bool false, .int .i64 0, .float .f64 0, .string ⟨#[]⟩, .slice none 0 0, .int .u64 0, .slice none 0 0, .slice none 0 0, .string ⟨#[]⟩, .int .i64 0]) (by simp [results, Tryz.results31, go_sem]) rfl ?_
  exact ⟨rfl, ((Below.refl _ _).alloc (Nat.le_refl _) _)⟩
theorem plain_nothing (d : Nat) (hd : d ≤ 400) (w : World) : Calls Tryz.prog 31 #[.iface 75 (.pointer none), .int .i64 d] w (TermPost (plainT .nothing d) w) := by
  have hT : plainT .nothing d = .mk 11 false 0 0 ⟨#[]⟩ [] 0 [] [] ⟨#[]⟩ 0 := by rw [plainT, if_neg (by omega)]
  rw [hT]
  refine (plainX_nothing  d hd w).mono ?_
  rintro e w' ⟨rfl, hb⟩
  exact ⟨[.int .i64 11, .bool false, .int .i64 0, .float .f64 0, .string ⟨#[]⟩, .slice none 0 0, .int .u64 0, .slice none 0 0, .slice none 0 0, .string ⟨#[]⟩, .int .i64 0], rfl, ⟨none, 0, none, 0, none, 0, rfl, ⟨by decide, by decide⟩, ⟨by decide, by decide⟩, by decide, by decide, ⟨fun _ => rfl, .inl rfl⟩, by decide, by decide, by decide, ⟨by decide, by decide⟩, ⟨by decide, .inl rfl⟩, ⟨by decide, .inl rfl⟩⟩, hb⟩
end Go.Proofs.YtbemeapjeipjlaaGreatDoor
