/- Walks: value.order of any two, value.Same. -/
import Derived.Test.YtobpkelblpdajaaGreatDoorTX11
set_option linter.unusedVariables false
set_option linter.unusedSimpArgs false
set_option linter.unusedSectionVars false
namespace Go.Proofs.YtobpkelblpdajaaGreatDoor
open Go Go.RowKit
attribute [local go_sem] ta_no_bool ta_yes_bool ta_nil_bool ta_no_int64 ta_yes_int64 ta_nil_int64 ta_no_flt ta_yes_flt ta_nil_flt ta_no_str ta_yes_str ta_nil_str ta_no_byt ta_yes_byt ta_nil_byt ta_no_ref ta_yes_ref ta_nil_ref ta_no_lst ta_yes_lst ta_nil_lst ta_no_dct ta_yes_dct ta_nil_dct ta_no_rec ta_yes_rec ta_nil_rec ta1_bool ta1_int64 ta1_flt ta1_str ta1_byt ta1_ref ta1_lst ta1_dct ta1_rec
end Go.Proofs.YtobpkelblpdajaaGreatDoor
/- What passes the check is of kinds that can be; walks: value.Same, value.Copy, value.Kind. -/
namespace Go.Proofs.YtobpkelblpdajaaGreatDoor
open Go Go.RowKit
theorem step_fine {x : V} {d : Nat} {s : Cnt} {K : Cnt → Bool × Cnt} (h : (stepV x d s K).1 = true) : ownV x s.n d = 0 ∧ (K ⟨s.n + 1, max s.deep d, 0⟩).1 = true := by
  by_cases hq : ownV x s.n d = 0
  · rw [stepV_yes hq] at h; exact ⟨hq, h⟩
  · rw [stepV_no hq] at h; cases h
theorem then_fine {r : Bool × Cnt} {K : Cnt → Bool × Cnt} (h : (thenV r K).1 = true) : r.1 = true ∧ (K r.2).1 = true := by
  cases hq : r.1
  · rw [thenV_no hq] at h; cases h
  · rw [thenV_yes hq] at h; exact ⟨rfl, h⟩
theorem own_kind {x : V} {n d : Nat} (h : ownV x n d = 0) : x ≠ .nothing ∧ x ≠ .alien := by
  constructor <;> (rintro rfl; unfold ownV at h; split at h <;> cases h)
theorem step_why {x : V} {d : Nat} {s : Cnt} {K : Cnt → Bool × Cnt} (hK : ∀ t, (K t).1 = false → (K t).2.why ≠ 0) (h : (stepV x d s K).1 = false) : (stepV x d s K).2.why ≠ 0 := by
  by_cases hq : ownV x s.n d = 0
  · rw [stepV_yes hq] at h ⊢; exact hK _ h
  · rw [stepV_no hq]; exact hq
theorem then_why {r : Bool × Cnt} {K : Cnt → Bool × Cnt} (hr : r.1 = false → r.2.why ≠ 0) (hK : ∀ t, (K t).1 = false → (K t).2.why ≠ 0) (h : (thenV r K).1 = false) : (thenV r K).2.why ≠ 0 := by
  cases hq : r.1
  · rw [thenV_no hq]; exact hr hq
  · rw [thenV_yes hq] at h ⊢; exact hK _ h
theorem partL_why (l : List V) (ih : ∀ x ∈ l, ∀ d s, (partV x d s).1 = false → (partV x d s).2.why ≠ 0) : ∀ d s, (partL l d s).1 = false → (partL l d s).2.why ≠ 0 := by
  induction l with
  | nil => intro d s h; cases h
  | cons x r ihr =>
    intro d s h
    exact then_why (ih x (by simp) _ _) (fun t => ihr (fun y hy => ih y (by simp [hy])) _ _) h
theorem partD_why (l : List (ByteArray × V)) (ih : ∀ p ∈ l, ∀ d s, (partV p.2 d s).1 = false → (partV p.2 d s).2.why ≠ 0) : ∀ d s, (partD l d s).1 = false → (partD l d s).2.why ≠ 0 := by
  induction l with
  | nil => intro d s h; cases h
  | cons p r ihr =>
    obtain ⟨n, x⟩ := p
    intro d s h
    exact then_why (ih (n, x) (by simp) _ _) (fun t => ihr (fun y hy => ih y (by simp [hy])) _ _) h
theorem part_why (x : V) : ∀ d s, (partV x d s).1 = false → (partV x d s).2.why ≠ 0 := by
  induction x using V.ind with
  | h7 l ih => intro d s h; exact step_why (fun t => partL_why l ih _ t) h
  | h8 l ih => intro d s h; exact step_why (fun t => partD_why l ih _ t) h
  | h9 c v l ih => intro d s h; exact step_why (fun t => partD_why l ih _ t) h
  | _ => intro d s h; exact step_why (fun t ht => by cases ht) h
/- What passes the check. -/
def BoolPost (r : Bool) (w : World) (e : Ending) (w' : World) : Prop := e = .returned (.bool r) ∧ Below w.heap.size w w'
end Go.Proofs.YtobpkelblpdajaaGreatDoor
