/- What passes the check is of kinds that can be; walks: value.Same, value.Copy, value.Kind. -/
import Derived.Test.YtobpkelblpdajaaGreatDoorNL26
set_option linter.unusedVariables false
set_option linter.unusedSimpArgs false
set_option linter.unusedSectionVars false
namespace Go.Proofs.YtobpkelblpdajaaGreatDoor
open Go Go.RowKit
theorem step_fine {x : V} {d : Nat} {s : Cnt} {K : Cnt → Bool × Cnt} (h : (stepV x d s K).1 = true) : ownV x s.n d = 0 ∧ (K ⟨s.n + 1, max s.deep d, 0⟩).1 = true := by
  by_cases hq : ownV x s.n d = 0
  · rw [stepV_yes hq] at h; exact ⟨hq, h⟩
  · rw [stepV_no hq] at h; cases h
theorem then_fine {r : Bool × Cnt} {K : Cnt → Bool × Cnt} (h : (thenV r K).1 = true) : r.1 = true ∧ (K r.2).1 = true := by
  cases hq : r.1
  · rw [thenV_no hq] at h; cases h
  · rw [thenV_yes hq] at h; exact ⟨rfl, h⟩
theorem own_kind {x : V} {n d : Nat} (h : ownV x n d = 0) : x ≠ .nothing ∧ x ≠ .alien := by
  constructor <;> (rintro rfl; unfold ownV at h; split at h <;> cases h)
theorem partL_fine (l : List V) (ih : ∀ x ∈ l, ∀ d s, (partV x d s).1 = true → fineV x) : ∀ d s, (partL l d s).1 = true → fineL l := by
  induction l with
  | nil => intro d s _; exact trivial
  | cons x r ihr =>
    intro d s h
    obtain ⟨h1, h2⟩ := then_fine h
    exact ⟨ih x (by simp) _ _ h1, ihr (fun y hy => ih y (by simp [hy])) _ _ h2⟩
theorem partD_fine (l : List (ByteArray × V)) (ih : ∀ p ∈ l, ∀ d s, (partV p.2 d s).1 = true → fineV p.2) : ∀ d s, (partD l d s).1 = true → fineD l := by
  induction l with
  | nil => intro d s _; exact trivial
  | cons p r ihr =>
    obtain ⟨n, x⟩ := p
    intro d s h
    obtain ⟨h1, h2⟩ := then_fine h
    exact ⟨ih (n, x) (by simp) _ _ h1, ihr (fun y hy => ih y (by simp [hy])) _ _ h2⟩
theorem part_fine (x : V) : ∀ d s, (partV x d s).1 = true → fineV x := by
  induction x using V.ind with
  | h0 => intro d s _; trivial
  | h1 => intro d s _; trivial
  | h2 => intro d s _; trivial
  | h3 => intro d s _; trivial
  | h4 => intro d s _; trivial
  | h5 => intro d s _; trivial
  | h6 => intro d s _; trivial
  | h7 l ih => intro d s h; exact partL_fine l ih _ _ (step_fine h).2
  | h8 l ih => intro d s h; exact partD_fine l ih _ _ (step_fine h).2
  | h9 c v l ih => intro d s h; exact partD_fine l ih _ _ (step_fine h).2
  | h10 => intro d s h; exact absurd rfl (own_kind (step_fine h).1).1
  | h11 => intro d s h; exact absurd rfl (own_kind (step_fine h).1).2
theorem step_why {x : V} {d : Nat} {s : Cnt} {K : Cnt → Bool × Cnt} (hK : ∀ t, (K t).1 = false → (K t).2.why ≠ 0) (h : (stepV x d s K).1 = false) : (stepV x d s K).2.why ≠ 0 := by
  by_cases hq : ownV x s.n d = 0
  · rw [stepV_yes hq] at h ⊢; exact hK _ h
  · rw [stepV_no hq]; exact hq
theorem then_why {r : Bool × Cnt} {K : Cnt → Bool × Cnt} (hr : r.1 = false → r.2.why ≠ 0) (hK : ∀ t, (K t).1 = false → (K t).2.why ≠ 0) (h : (thenV r K).1 = false) : (thenV r K).2.why ≠ 0 := by
  cases hq : r.1
  · rw [thenV_no hq]; exact hr hq
  · rw [thenV_yes hq] at h ⊢; exact hK _ h
theorem partL_why (l : List V) (ih : ∀ x ∈ l, ∀ d s, (partV x d s).1 = false → (partV x d s).2.why ≠ 0) : ∀ d s, (partL l d s).1 = false → (partL l d s).2.why ≠ 0 := by
  induction l with
  | nil => intro d s h; cases h
  | cons x r ihr =>
    intro d s h
    exact then_why (ih x (by simp) _ _) (fun t => ihr (fun y hy => ih y (by simp [hy])) _ _) h
theorem partD_why (l : List (ByteArray × V)) (ih : ∀ p ∈ l, ∀ d s, (partV p.2 d s).1 = false → (partV p.2 d s).2.why ≠ 0) : ∀ d s, (partD l d s).1 = false → (partD l d s).2.why ≠ 0 := by
  induction l with
  | nil => intro d s h; cases h
  | cons p r ihr =>
    obtain ⟨n, x⟩ := p
    intro d s h
    exact then_why (ih (n, x) (by simp) _ _) (fun t => ihr (fun y hy => ih y (by simp [hy])) _ _) h
theorem part_why (x : V) : ∀ d s, (partV x d s).1 = false → (partV x d s).2.why ≠ 0 := by
  induction x using V.ind with
  | h7 l ih => intro d s h; exact step_why (fun t => partL_why l ih _ t) h
  | h8 l ih => intro d s h; exact step_why (fun t => partD_why l ih _ t) h
  | h9 c v l ih => intro d s h; exact step_why (fun t => partD_why l ih _ t) h
  | _ => intro d s h; exact step_why (fun t ht => by cases ht) h
/- What passes the check. -/
def okV (x : V) : Prop := (partV x 1 ⟨0, 0, 0⟩).1 = true
theorem okV_fine {x : V} (h : okV x) : fineV x := part_fine x _ _ h
theorem okV_check {x : V} : okV x ↔ (checkV x).2 = 0 := by
  constructor
  · intro h; rw [checkV_yes h]
  · intro h
    cases hq : (partV x 1 ⟨0, 0, 0⟩).1
    · rw [checkV_no hq] at h; exact absurd h (part_why x _ _ hq)
    · exact hq
noncomputable def sameV (a b : V) : Bool := decide ((checkV a).2 = 0) && (decide ((checkV b).2 = 0) && decide (ordV a b = 0))
def BoolPost (r : Bool) (w : World) (e : Ending) (w' : World) : Prop := e = .returned (.bool r) ∧ Below w.heap.size w w'
set_option maxRecDepth 100000 in
set_option maxHeartbeats 1000000 in
theorem same_any (a b : V) (va vb : Value) (w : World) (ha : Rd w w.heap.size a va) (hb : Rd w w.heap.size b vb) : Calls Tryz.prog 28 #[va, vb] w (BoolPost (sameV a b) w) := by
  have H1 : Hid (Calls Tryz.prog 48 #[va] w (fun e w' => e = .returned (.tuple #[.int .i64 (checkV a).1, .int .i64 (checkV a).2]) ∧ Below w.heap.size w w')) := Lib.hid (check_any a va w ha)
  have H2 : Hid (∀ W, Below w.heap.size w W → Calls Tryz.prog 48 #[vb] W (fun e w' => e = .returned (.tuple #[.int .i64 (checkV b).1, .int .i64 (checkV b).2]) ∧ Below W.heap.size W w')) := Lib.hid (fun W hW => check_any b vb W (Rd.more hW.size _ _ (hb.below hW)))
  have H3 : Hid ((checkV a).2 = 0 → (checkV b).2 = 0 → ∀ W, Below w.heap.size w W → Calls Tryz.prog 50 #[va, vb] W (OrdPost (ordV a b) W)) := Lib.hid (fun h1 h2 W hW => order_any a b va vb W (okV_fine (okV_check.2 h1)) (okV_fine (okV_check.2 h2)) (Rd.more hW.size _ _ (ha.below hW)) (Rd.more hW.size _ _ (hb.below hW)))
  have HR : Hid (sameV a b = (decide ((checkV a).2 = 0) && (decide ((checkV b).2 = 0) && decide (ordV a b = 0)))) := Lib.hid rfl
  clear ha hb
  generalize sameV a b = r at *
  generalize checkV a = ca at *
  generalize checkV b = cb at *
  generalize ordV a b = n at *
  by_cases z1 : ca.2 = 0
  · have e1 : ((ca.2 : Int) == 0) = true := by rw [z1]; rfl
    by_cases z2 : cb.2 = 0
    · have e2 : ((cb.2 : Int) == 0) = true := by rw [z2]; rfl
      have H4 := Lib.hid (H3.out z1 z2)
      by_cases z3 : n = 0
      · have e3 : (n == 0) = true := by simp [z3]
        replace HR : Hid (r = true) := Lib.hid (by rw [HR.out]; simp [z1, z2, z3])
        clear z1 z2 z3 H3
        go_enter Tryz.func28, Tryz.ntmps28
        go_wp2_with fail
        refine H1.out.mono ?_
        rintro e w1 ⟨rfl, hb1⟩
        go_wp2_with fail
        refine (H2.out _ hb1).mono ?_
        rintro e w2 ⟨rfl, hb2⟩
        have hbb := below_then hb1 (Nat.le_refl _) hb2
        go_wp2_with fail
        refine (H4.out _ hbb).mono ?_
        rintro e w3 ⟨rfl, hb3⟩
        go_wp2
        go_ret
        exact ⟨ret_bool HR.out.symm, below_then hbb (Nat.le_refl _) hb3⟩
      · have e3 : (n == 0) = false := by simp [z3]
        replace HR : Hid (r = false) := Lib.hid (by rw [HR.out]; simp [z3])
        clear z1 z2 z3 H3
        go_enter Tryz.func28, Tryz.ntmps28
        go_wp2_with fail
        refine H1.out.mono ?_
        rintro e w1 ⟨rfl, hb1⟩
        go_wp2_with fail
        refine (H2.out _ hb1).mono ?_
        rintro e w2 ⟨rfl, hb2⟩
        have hbb := below_then hb1 (Nat.le_refl _) hb2
        go_wp2_with fail
        refine (H4.out _ hbb).mono ?_
        rintro e w3 ⟨rfl, hb3⟩
        go_wp2
        go_ret
        exact ⟨ret_bool HR.out.symm, below_then hbb (Nat.le_refl _) hb3⟩
    · have e2 : ((cb.2 : Int) == 0) = false := by rw [beq_eq_false_iff_ne]; omega
      replace HR : Hid (r = false) := Lib.hid (by rw [HR.out]; simp [z2])
      clear z1 z2 H3
      go_enter Tryz.func28, Tryz.ntmps28
      go_wp2_with fail
      refine H1.out.mono ?_
      rintro e w1 ⟨rfl, hb1⟩
      go_wp2_with fail
      refine (H2.out _ hb1).mono ?_
      rintro e w2 ⟨rfl, hb2⟩
      have hbb := below_then hb1 (Nat.le_refl _) hb2
      go_wp2
      go_ret
      exact ⟨ret_bool HR.out.symm, hbb⟩
  · have e1 : ((ca.2 : Int) == 0) = false := by rw [beq_eq_false_iff_ne]; omega
    replace HR : Hid (r = false) := Lib.hid (by rw [HR.out]; simp [z1])
    clear z1 H3
    go_enter Tryz.func28, Tryz.ntmps28
    go_wp2_with fail
    refine H1.out.mono ?_
    rintro e w1 ⟨rfl, hb1⟩
    go_wp2_with fail
    refine (H2.out _ hb1).mono ?_
    rintro e w2 ⟨rfl, hb2⟩
    have hbb := below_then hb1 (Nat.le_refl _) hb2
    go_wp2
    go_ret
    exact ⟨ret_bool HR.out.symm, hbb⟩
set_option maxRecDepth 100000 in
set_option maxHeartbeats 1000000 in
theorem kind_out (x : V) (v : Value) (B : Nat) (w : World) (h : Rd w B x v) : Calls Tryz.prog 101 #[v] w (NumPost (kindV x) w) := by
  have HK := Lib.hid (kind_any x v B w h)
  clear h
  go_enter Tryz.func101, Tryz.ntmps101
  go_wp2_with fail
  refine HK.out.mono ?_
  rintro e w1 ⟨rfl, rfl⟩
  go_wp2
  go_ret
  exact ⟨rfl, rfl⟩
def CopyPost (x : V) (w : World) (e : Ending) (w' : World) : Prop :=
  ∃ v, e = .returned (.tuple #[v, .int .i64 0]) ∧ RdS w' (New w w') x v ∧ Below w.heap.size w w'
set_option maxRecDepth 100000 in
set_option maxHeartbeats 1000000 in
theorem copy_any (x : V) (v : Value) (w : World) (hok : okV x) (h : Rd w w.heap.size x v) : Calls Tryz.prog 14 #[v] w (CopyPost x w) := by
  have H1 : Hid (Calls Tryz.prog 48 #[v] w (fun e w' => e = .returned (.tuple #[.int .i64 0, .int .i64 0]) ∧ Below w.heap.size w w')) := Lib.hid (by
    have := check_any x v w h
    unfold CheckPost at this
    rw [checkV_yes hok] at this
    exact this)
  have H2 := Lib.hid (fun (W : World) (hW : Below w.heap.size w W) => copied_any x (okV_fine hok) v W (Rd.more hW.size _ _ (h.below hW)))
  clear h hok
  go_enter Tryz.func14, Tryz.ntmps14
  go_wp2_with fail
  refine H1.out.mono ?_
  rintro e w1 ⟨rfl, hb1⟩
  go_wp2_with fail
  refine (H2.out _ hb1).mono ?_
  rintro e w2 ⟨u, rfl, hu, hb2⟩
  go_wp2
  go_ret2
  exact ⟨u, rfl, RdS.more (fun b hb => ⟨Nat.le_trans hb1.size hb.1, hb.2⟩) _ _ hu, below_then hb1 (Nat.le_refl _) hb2⟩
end Go.Proofs.YtobpkelblpdajaaGreatDoor
