/- Lines laid on one line: plain functions and their laws; no program in sight. -/
import Derived.Test.YtobpkelblpdajaaGreatDoorTX23
import Derived.Test.YtobpkelblpdajaaGreatDoorTX12
set_option linter.unusedVariables false
set_option linter.unusedSimpArgs false
set_option linter.unusedSectionVars false
namespace Go.Proofs.YtobpkelblpdajaaGreatDoor
open Go Go.RowKit
/- Names are names, and rise. -/
mutual
def NamV : V → Prop
  | .list l => NamL l
  | .dict l => FieldsTo l l.length ∧ NamD l
  | .record c _ l => nameB c.data.toList = true ∧ FieldsTo l l.length ∧ NamD l
  | _ => True
def NamL : List V → Prop
  | [] => True
  | x :: r => NamV x ∧ NamL r
def NamD : List (ByteArray × V) → Prop
  | [] => True
  | (_, x) :: r => NamV x ∧ NamD r
end
theorem fields_to {l : List (ByteArray × V)} (h : fieldsV l = 0) : FieldsTo l l.length := by
  unfold fieldsV at h
  split at h
  · cases h
  · split at h
    · assumption
    · cases h
theorem namL_of (l : List V) (ih : ∀ x ∈ l, ∀ d s, (partV x d s).1 = true → NamV x) : ∀ d s, (partL l d s).1 = true → NamL l := by
  induction l with
  | nil => intro d s _; exact trivial
  | cons x r ihr =>
    intro d s h
    rw [partL] at h
    obtain ⟨h1, h2⟩ := then_fine h
    exact ⟨ih x (by simp) _ _ h1, ihr (fun y hy => ih y (by simp [hy])) _ _ h2⟩
theorem namD_of (l : List (ByteArray × V)) (ih : ∀ p ∈ l, ∀ d s, (partV p.2 d s).1 = true → NamV p.2) : ∀ d s, (partD l d s).1 = true → NamD l := by
  induction l with
  | nil => intro d s _; exact trivial
  | cons x r ihr =>
    obtain ⟨n, x⟩ := x
    intro d s h
    rw [partD] at h
    obtain ⟨h1, h2⟩ := then_fine h
    exact ⟨ih (n, x) (by simp) _ _ h1, ihr (fun y hy => ih y (by simp [hy])) _ _ h2⟩
theorem nam_of (x : V) : ∀ d s, (partV x d s).1 = true → NamV x := by
  induction x using V.ind with
  | h7 l ih =>
    intro d s h
    rw [partV] at h
    exact namL_of l ih _ _ (step_fine h).2
  | h8 l ih =>
    intro d s h
    rw [partV] at h
    obtain ⟨h1, h2⟩ := step_fine h
    have hn := own_near h1
    unfold ownV at h1
    rw [if_neg (by omega)] at h1
    exact ⟨fields_to h1, namD_of l ih _ _ h2⟩
  | h9 c v l ih =>
    intro d s h
    rw [partV] at h
    obtain ⟨h1, h2⟩ := step_fine h
    have hn := own_near h1
    unfold ownV at h1
    rw [if_neg (by omega)] at h1
    simp only at h1
    split at h1
    · cases h1
    · rename_i hc
      split at h1
      · cases h1
      · exact ⟨by simpa using hc, fields_to h1, namD_of l ih _ _ h2⟩
  | _ => intros; exact trivial
/- Lines laid on one line. -/
def flatM (acc : List UInt8) (sk : Bool) : List UInt8 → List UInt8
  | [] => acc
  | c :: r => if sk = true ∧ c = 32 then flatM acc true r else if c = 10 then flatM (if acc.getLast? = some 44 then acc ++ [32] else acc) true r else flatM (acc ++ [c]) false r
theorem flat_run (l : List UInt8) (h : ∀ c ∈ l, c ≠ 10) : ∀ acc r, flatM acc false (l ++ r) = flatM (acc ++ l) false r := by
  induction l with
  | nil => intro acc r; simp
  | cons c l ih =>
    intro acc r
    rw [List.cons_append, flatM, if_neg (by simp), if_neg (h c (by simp)), ih (fun d hd => h d (by simp [hd]))]
    simp
theorem flat_leaf {l : List UInt8} (h : ∀ c ∈ l, c ≠ 10) (hne : l ≠ []) (h0 : l.head? ≠ some 32) (acc : List UInt8) (sk : Bool) (r : List UInt8) : flatM acc sk (l ++ r) = flatM (acc ++ l) false r := by
  cases l with
  | nil => exact absurd rfl hne
  | cons c l =>
    rw [List.cons_append, flatM, if_neg (fun e => h0 (by rw [e.2]; rfl)), if_neg (h c (by simp)), flat_run l (fun d hd => h d (by simp [hd]))]
    simp
theorem flat_skip (k : Nat) (acc r : List UInt8) : flatM acc true (List.replicate k 32 ++ r) = flatM acc true r := by
  induction k with
  | zero => rfl
  | succ k ih => rw [List.replicate_succ, List.cons_append, flatM, if_pos ⟨rfl, rfl⟩, ih]
/- Bytes that are no blank, no line feed and no comma. -/
def safeC (c : UInt8) : Bool := c != 10 && c != 32 && c != 44
structure Leafy (l : List UInt8) : Prop where
  no : ∀ c ∈ l, c ≠ 10
  ne : l ≠ []
  hd : l.head? ≠ some 32
  lt : l.getLast? ≠ some 44
theorem Leafy.of_safe {l : List UInt8} (hne : l ≠ []) (h : l.all safeC = true) : Leafy l := by
  have hs : ∀ c ∈ l, c ≠ 10 ∧ c ≠ 32 ∧ c ≠ 44 := fun c hc => by
    have := List.all_eq_true.1 h c hc
    simp only [safeC, Bool.and_eq_true, bne_iff_ne] at this
    exact ⟨this.1.1, this.1.2, this.2⟩
  refine ⟨fun c hc => (hs c hc).1, hne, fun e => ?_, fun e => ?_⟩
  · exact (hs 32 (List.mem_of_head? e)).2.1 rfl
  · exact (hs 44 (List.mem_of_getLast? e)).2.2 rfl
theorem safe_digits (n : Nat) : (Lib.decDigits n).all safeC = true := by
  rw [List.all_eq_true]
  intro c hc
  rw [Lib.decDigits_eq] at hc
  obtain ⟨t, -, rfl⟩ := List.mem_map.1 hc
  unfold Lib.dg
  have : n / 10 ^ (Lib.nDigits n - 1 - t) % 10 < 10 := Nat.mod_lt _ (by omega)
  generalize n / 10 ^ (Lib.nDigits n - 1 - t) % 10 = k at *
  revert k
  decide
theorem safe_itoa (n : Int) : (Lib.itoa n).all safeC = true := by
  unfold Lib.itoa
  split
  · rw [List.all_cons, safe_digits]; rfl
  · exact safe_digits _
theorem safe_hexc {n : Nat} (h : n < 16) : safeC (hexc n) = true := by
  revert n
  decide
theorem safe_hexN (k n : Nat) : (hexN k n).all safeC = true := by
  induction k with
  | zero => rfl
  | succ k ih => rw [hexN, List.all_cons, ih, safe_hexc (Nat.mod_lt _ (by omega))]; rfl
theorem safe_fracD : ∀ (k F : Nat), F < 16 ^ k → (fracD k F).all safeC = true := by
  intro k
  induction k with
  | zero => intro F _; rfl
  | succ k ih =>
    intro F h
    rw [fracD]
    split
    · rfl
    · rw [List.all_cons, ih _ (Nat.mod_lt _ (Nat.pow_pos (by omega))), safe_hexc (Nat.div_lt_of_lt_mul (by rw [Nat.pow_succ] at h; omega))]; rfl
theorem safe_expT (e : Int) : (expT e).all safeC = true := by
  unfold expT
  rw [List.all_cons, List.all_append, safe_digits]
  split <;> split <;> rfl
theorem normF_lt : ∀ (k m : Nat) (e : Int), m < 9007199254740992 → (normF k m e).1 < 9007199254740992 := by
  intro k
  induction k with
  | zero => intro m e h; exact h
  | succ k ih =>
    intro m e h
    rw [normF]
    split
    · exact ih _ _ (by omega)
    · exact h
theorem safe_body {F : Nat} (x : Int) (h : F < 4503599627370496) : (49 :: (fracT F ++ 112 :: expT x)).all safeC = true := by
  rw [List.all_cons, List.all_append, List.all_cons, safe_expT]
  unfold fracT
  split
  · rfl
  · rw [List.all_cons, safe_fracD 13 F (by simpa using h)]; rfl
theorem safe_bodyT (e m : Nat) (hm : m < 4503599627370496) : (bodyT e m).all safeC = true := by
  unfold bodyT
  split
  · rfl
  · simp only
    split
    · have := normF_lt 52 m 1 (by omega)
      exact safe_body _ (by omega)
    · exact safe_body _ (by simp only; omega)
theorem safe_fltT (b : Nat) : (fltT b).all safeC = true := by
  unfold fltT
  split
  · split
    · split <;> rfl
    · rw [List.all_append, List.all_append, safe_hexN]; rfl
  · rw [List.all_append, List.all_cons, List.all_cons, safe_bodyT _ _ (Nat.mod_lt _ (by omega))]
    split <;> rfl
theorem fltT_ne (b : Nat) : fltT b ≠ [] := by unfold fltT; split; split <;> simp; simp
theorem no_escB (c : UInt8) : ∀ d ∈ escB c, d ≠ 10 := by
  intro d hd
  have h16 : c.toNat / 16 < 16 := by have := c.toNat_lt; omega
  have k16 : c.toNat % 16 < 16 := Nat.mod_lt _ (by omega)
  have s1 := safe_hexc h16
  have s2 := safe_hexc k16
  have nx : ∀ x, safeC x = true → x ≠ 10 := fun x hx e => by subst e; cases hx
  have n1 := nx _ s1
  have n2 := nx _ s2
  unfold escB at hd
  repeat' split at hd
  all_goals simp only [List.mem_cons, List.not_mem_nil, or_false] at hd
  all_goals first
    | (rcases hd with rfl | rfl | rfl | rfl <;> first | decide | assumption)
    | (rcases hd with rfl | rfl
       · decide
       · first
         | decide
         | (rename_i h; rcases h with h | h <;> (subst h; decide)))
    | (subst hd; assumption)
theorem leafy_quote (l : List UInt8) : Leafy (quoteB l) := by
  unfold quoteB
  refine ⟨fun c hc => ?_, by simp, by simp, by rw [← List.cons_append, List.getLast?_append]; simp⟩
  rcases List.mem_cons.1 hc with rfl | hc
  · decide
  · rcases List.mem_append.1 hc with hc | hc
    · obtain ⟨x, -, hx⟩ := List.mem_flatMap.1 hc
      exact no_escB x c hx
    · simp at hc; subst hc; decide
theorem leafy_hex (l : List UInt8) : Leafy (hexB l) := by
  refine Leafy.of_safe (by simp [hexB]) ?_
  unfold hexB
  rw [List.all_cons, List.all_flatMap]
  rw [Bool.and_eq_true]
  refine ⟨rfl, List.all_eq_true.2 fun c _ => ?_⟩
  have h16 : c.toNat / 16 < 16 := by have := c.toNat_lt; omega
  simp [safe_hexc h16, safe_hexc (Nat.mod_lt c.toNat (show 0 < 16 by omega))]
theorem inName_safe {c : UInt8} (h : inName c = true) : safeC c = true := by
  unfold safeC
  by_cases h1 : c = 10
  · subst h1; cases h
  · by_cases h2 : c = 32
    · subst h2; cases h
    · by_cases h3 : c = 44
      · subst h3; cases h
      · simp [h1, h2, h3]
theorem name_safe {l : List UInt8} (h : nameB l = true) : l ≠ [] ∧ l.all safeC = true := by
  cases l with
  | nil => cases h
  | cons c r =>
    refine ⟨by simp, List.all_eq_true.2 fun d hd => ?_⟩
    obtain ⟨i, hi⟩ := List.mem_iff_getElem?.1 hd
    cases hs : inName d with
    | true => exact inName_safe hs
    | false => rw [nameB_bad hi (.inl hs)] at h; cases h
theorem put_leafy (x : V) (d : Nat) (h : Fit x d) (hn : NamV x) (hl : (∀ l, x ≠ .list l) ∧ (∀ l, x ≠ .dict l) ∧ ∀ c v l, x ≠ .record c v l) (ln : Bool) : Leafy (putV ln x d) := by
  cases x with
  | nil => rw [putV]; exact Leafy.of_safe (by simp) rfl
  | bool b => rw [putV]; cases b <;> exact Leafy.of_safe (by simp [truB, falB]) rfl
  | int n => rw [putV]; exact Leafy.of_safe (itoa_ne n) (safe_itoa n)
  | flt b => rw [putV]; exact Leafy.of_safe (fltT_ne b) (safe_fltT b)
  | text s => rw [putV]; exact leafy_quote _
  | bytes l => rw [putV]; exact leafy_hex _
  | ref n => rw [putV]; exact Leafy.of_safe (by simp) (by rw [List.all_cons, safe_digits]; rfl)
  | list l => exact absurd rfl (hl.1 l)
  | dict l => exact absurd rfl (hl.2.1 l)
  | record c v l => exact absurd rfl (hl.2.2 c v l)
  | nothing => exact absurd h id
  | alien => exact absurd h id
def FlatC (x : V) : Prop := ∀ d, Fit x d → NamV x → (∀ acc sk r, flatM acc sk (putV true x d ++ r) = flatM (acc ++ putV false x d) false r) ∧ (putV false x d).getLast? ≠ some 44
theorem FlatC.leaf {x : V} (hl : (∀ l, x ≠ .list l) ∧ (∀ l, x ≠ .dict l) ∧ ∀ c v l, x ≠ .record c v l) (he : ∀ d, putV true x d = putV false x d) : FlatC x := fun d h hn => by
  have hp := put_leafy x d h hn hl false
  exact ⟨fun acc sk r => by rw [he]; exact flat_leaf hp.no hp.ne hp.hd acc sk r, hp.lt⟩
/- What stands ahead of a thing. -/
theorem flat_sep (i d : Nat) (acc r : List UInt8) (h : acc.getLast? ≠ some 44) : flatM acc false (sepT true i d ++ r) = flatM (acc ++ sepT false i d) true r := by
  unfold sepT
  rw [if_pos rfl, if_neg (show ¬ (false = true) by simp)]
  by_cases hi : 0 < i
  · rw [if_pos hi, if_pos hi]
    simp only [List.cons_append, List.nil_append]
    rw [flatM, if_neg (by simp), if_neg (by decide), flatM, if_neg (by simp), if_pos rfl, if_pos (by simp), flat_skip]
    simp
  · rw [if_neg hi, if_neg hi]
    simp only [List.cons_append, List.nil_append, List.append_nil]
    rw [flatM, if_neg (by simp), if_pos rfl, if_neg h, flat_skip]
theorem flat_close (n d : Nat) (acc r : List UInt8) (h : acc.getLast? ≠ some 44) (c : UInt8) (hc : c ≠ 32 ∧ c ≠ 10) : flatM acc false (closeT true n d ++ ([c] ++ r)) = flatM (acc ++ (closeT false n d ++ [c])) false r := by
  unfold closeT
  rw [if_neg (by simp : ¬ ((false = true) ∧ 0 < n))]
  by_cases hn : 0 < n
  · rw [if_pos ⟨rfl, hn⟩]
    simp only [List.cons_append, List.nil_append]
    rw [flatM, if_neg (by simp), if_pos rfl, if_neg h, flat_skip, flatM, if_neg (fun e => hc.1 e.2), if_neg hc.2]
  · rw [if_neg (fun e => hn e.2)]
    simp only [List.cons_append, List.nil_append]
    rw [flatM, if_neg (by simp), if_neg hc.2]
theorem flat_putL (l : List V) (d : Nat) (ih : ∀ x ∈ l, FlatC x) (hf : FitL l (d + 1)) (hn : NamL l) : ∀ i acc r, acc.getLast? ≠ some 44 → flatM acc false (putL true l i d ++ r) = flatM (acc ++ putL false l i d) false r ∧ (acc ++ putL false l i d).getLast? ≠ some 44 := by
  induction l with
  | nil => intro i acc r h; simp [putL, h]
  | cons x l ihl =>
    intro i acc r h
    obtain ⟨h1, h2⟩ := ih x (by simp) (d + 1) hf.1 hn.1
    have hne := put_ne false x (d + 1) hf.1
    rw [putL, putL, List.append_assoc, flat_sep i d acc _ h, List.append_assoc, h1]
    have hl : (acc ++ sepT false i d ++ putV false x (d + 1)).getLast? ≠ some 44 := by
      rw [List.getLast?_append, Option.or_of_isSome]
      · exact h2
      · cases hq : putV false x (d + 1) with
        | nil => exact absurd hq hne
        | cons c t => simp
    have h3 := ihl (fun y hy => ih y (by simp [hy])) hf.2 hn.2 (i + 1) _ r hl
    rw [h3.1]
    refine ⟨by simp, ?_⟩
    have h4 := h3.2
    simpa using h4
theorem flat_putD (l : List (ByteArray × V)) (d : Nat) (ih : ∀ p ∈ l, FlatC p.2) (hf : FitD l (d + 1)) (hn : NamD l) (hm : ∀ p ∈ l, nameB p.1.data.toList = true) : ∀ i acc r, acc.getLast? ≠ some 44 → flatM acc false (putD true l i d ++ r) = flatM (acc ++ putD false l i d) false r ∧ (acc ++ putD false l i d).getLast? ≠ some 44 := by
  induction l with
  | nil => intro i acc r h; simp [putD, h]
  | cons p l ihl =>
    obtain ⟨n, x⟩ := p
    intro i acc r h
    obtain ⟨h1, h2⟩ := ih (n, x) (by simp) (d + 1) hf.2.1 hn.1
    simp only at h1 h2
    have hne := put_ne false x (d + 1) hf.2.1
    obtain ⟨q1, q2⟩ := name_safe (hm (n, x) (by simp))
    have hq := Leafy.of_safe q1 q2
    rw [putD, putD, List.append_assoc, flat_sep i d acc _ h]
    simp only [List.append_assoc]
    rw [flat_leaf hq.no hq.ne hq.hd, flat_run [58, 32] (by decide), h1]
    have hl : (acc ++ sepT false i d ++ n.data.toList ++ [58, 32] ++ putV false x (d + 1)).getLast? ≠ some 44 := by
      rw [List.getLast?_append, Option.or_of_isSome]
      · exact h2
      · cases hq : putV false x (d + 1) with
        | nil => exact absurd hq hne
        | cons c t => simp
    have h3 := ihl (fun y hy => ih y (by simp [hy])) hf.2.2 hn.2 (fun y hy => hm y (by simp [hy])) (i + 1) _ r hl
    rw [h3.1]
    refine ⟨by simp, ?_⟩
    have h4 := h3.2
    simpa using h4
theorem fields_names {l : List (ByteArray × V)} (h : FieldsTo l l.length) : ∀ p ∈ l, nameB p.1.data.toList = true := fun p hp => by
  obtain ⟨i, hi⟩ := List.mem_iff_getElem?.1 hp
  exact (h i p (List.getElem?_eq_some_iff.1 hi).1 hi).1
theorem flat_dict (l : List (ByteArray × V)) (d : Nat) (ih : ∀ p ∈ l, FlatC p.2) (hf : FitD l (d + 1)) (hn : FieldsTo l l.length ∧ NamD l) (acc r : List UInt8) (sk : Bool) :
    flatM acc sk (123 :: (putD true l 0 d ++ (closeT true l.length d ++ [125])) ++ r) = flatM (acc ++ 123 :: (putD false l 0 d ++ (closeT false l.length d ++ [125]))) false r := by
  rw [List.cons_append, flatM, if_neg (fun e => by cases e.2), if_neg (by decide)]
  simp only [List.append_assoc]
  have h3 := flat_putD l d ih hf hn.2 (fields_names hn.1) 0 (acc ++ [123]) (closeT true l.length d ++ ([125] ++ r)) (by simp)
  rw [h3.1, flat_close _ _ _ _ h3.2 125 (by decide)]
  simp
theorem flat_put (x : V) : FlatC x := by
  induction x using V.ind with
  | h7 l ih =>
    intro d h hn
    obtain ⟨-, -, hf⟩ := h
    refine ⟨fun acc sk r => ?_, by rw [putV, ← List.append_assoc, ← List.cons_append, List.getLast?_append]; simp⟩
    rw [putV, putV, List.cons_append, flatM, if_neg (fun e => by cases e.2), if_neg (by decide)]
    simp only [List.append_assoc]
    have h3 := flat_putL l d ih hf hn 0 (acc ++ [91]) (closeT true l.length d ++ ([93] ++ r)) (by simp)
    rw [h3.1, flat_close _ _ _ _ h3.2 93 (by decide)]
    simp
  | h8 l ih =>
    intro d h hn
    obtain ⟨-, -, hf⟩ := h
    refine ⟨fun acc sk r => ?_, by rw [putV, ← List.append_assoc, ← List.cons_append, List.getLast?_append]; simp⟩
    rw [putV, putV]
    exact flat_dict l d ih hf hn acc r sk
  | h9 c v l ih =>
    intro d h hn
    obtain ⟨-, -, -, -, -, hf⟩ := h
    obtain ⟨hc, hn2⟩ := hn
    obtain ⟨q1, q2⟩ := name_safe hc
    have hq := Leafy.of_safe q1 q2
    have hv : ∀ c ∈ Lib.itoa v, c ≠ 10 := (Leafy.of_safe (itoa_ne v) (safe_itoa v)).no
    refine ⟨fun acc sk r => ?_, by
      rw [putV, show ∀ a b c e : List UInt8, a ++ 47 :: (b ++ 123 :: (c ++ (e ++ [125]))) = (a ++ 47 :: (b ++ 123 :: (c ++ e))) ++ [125] by intros; simp, List.getLast?_append]; simp⟩
    rw [putV, putV, List.append_assoc, flat_leaf hq.no hq.ne hq.hd]
    rw [show ∀ a b : List UInt8, 47 :: (Lib.itoa v ++ a) ++ b = [47] ++ (Lib.itoa v ++ (a ++ b)) by intros; simp]
    rw [flat_run [47] (by decide), flat_run _ hv, flat_dict l d ih hf hn2]
    simp
  | h4 s => exact FlatC.leaf ⟨by simp, by simp, by simp⟩ (fun d => rfl)
  | h5 s => exact FlatC.leaf ⟨by simp, by simp, by simp⟩ (fun d => rfl)
  | h0 => exact FlatC.leaf ⟨by simp, by simp, by simp⟩ (fun d => rfl)
  | h1 => exact FlatC.leaf ⟨by simp, by simp, by simp⟩ (fun d => rfl)
  | h2 => exact FlatC.leaf ⟨by simp, by simp, by simp⟩ (fun d => rfl)
  | h3 => exact FlatC.leaf ⟨by simp, by simp, by simp⟩ (fun d => rfl)
  | h6 => exact FlatC.leaf ⟨by simp, by simp, by simp⟩ (fun d => rfl)
  | h10 => exact FlatC.leaf ⟨by simp, by simp, by simp⟩ (fun d => rfl)
  | h11 => exact FlatC.leaf ⟨by simp, by simp, by simp⟩ (fun d => rfl)
end Go.Proofs.YtobpkelblpdajaaGreatDoor
