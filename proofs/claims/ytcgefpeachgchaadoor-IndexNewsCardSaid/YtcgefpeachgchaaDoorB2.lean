/- Plain: a step of a way's text, and the whole text. -/
import Derived.Test.YtcgefpeachgchaaDoorB1
namespace Go.Proofs.YtcgefpeachgchaaDoor
open Go Go.RowKit
structure SR where
  err : Nat
  next : Nat
  isAt : Bool
def smallB (l : List UInt8) : Bool := match Lib.parseUint10 0 l with
  | .ok u => decide (u < 4096)
  | _ => false
def stepS (l : List UInt8) (k : Nat) (behind : Bool) : SR :=
  if (l.getD k 0).toNat = 91 then
    if k + 1 + spanLen digB l (k + 1) = l.length then ⟨4, 0, false⟩
    else if spanLen digB l (k + 1) = 0 ∨ ((l.getD (k + 1) 0).toNat = 48 ∧ spanLen digB l (k + 1) ≠ 1) ∨ (l.getD (k + 1 + spanLen digB l (k + 1)) 0).toNat ≠ 93 then ⟨3, 0, false⟩
    else if smallB ((l.drop (k + 1)).take (spanLen digB l (k + 1))) then ⟨0, k + 1 + spanLen digB l (k + 1) + 1, true⟩
    else ⟨1, 0, false⟩
  else
    if spanLen inName l (if behind then k + 1 else k) = 0 ∧ (if behind then k + 1 else k) = l.length then ⟨4, 0, false⟩
    else if spanLen inName l (if behind then k + 1 else k) = 0 then ⟨3, 0, false⟩
    else if nameB ((l.drop (if behind then k + 1 else k)).take (spanLen inName l (if behind then k + 1 else k))) then ⟨0, (if behind then k + 1 else k) + spanLen inName l (if behind then k + 1 else k), false⟩
    else ⟨8, 0, false⟩
/- all of the text, in at most so many rounds: the error, and what the first step is -/
structure PR where
  err : Nat
  len : Nat
  first : Bool
def parseS : Nat → List UInt8 → Nat → Nat → Bool → PR
  | 0, _, _, _, _ => ⟨99, 0, false⟩
  | f + 1, l, k, n, b =>
    if k < l.length then
      if 0 < n ∧ (l.getD k 0).toNat ≠ 46 ∧ (l.getD k 0).toNat ≠ 91 then ⟨3, 0, false⟩
      else if 64 ≤ n then ⟨2, 0, false⟩
      else if (stepS l k (decide (0 < n))).err = 0 then parseS f l (stepS l k (decide (0 < n))).next (n + 1) (if n = 0 then (stepS l k (decide (0 < n))).isAt else b)
      else ⟨(stepS l k (decide (0 < n))).err, 0, false⟩
    else ⟨0, n, b⟩
theorem stepS_next {l : List UInt8} {k : Nat} {b : Bool} (hk : k < l.length) (h : (stepS l k b).err = 0) : k < (stepS l k b).next ∧ (stepS l k b).next ≤ l.length := by
  have h1 := span_le digB l (k + 1)
  unfold stepS at h ⊢
  split at h
  · rename_i e
    rw [if_pos e]
    split at h
    · cases h
    · rename_i e1
      rw [if_neg e1]
      split at h
      · cases h
      · rename_i e2
        rw [if_neg e2]
        split at h
        · rename_i e3
          rw [if_pos e3]
          exact ⟨by simp only []; omega, by simp only []; omega⟩
        · cases h
  · rename_i e
    rw [if_neg e]
    generalize ha : (if b then k + 1 else k) = a at *
    have h2 := span_le inName l a
    have h3 : k ≤ a ∧ a ≤ k + 1 := by subst ha; split <;> omega
    split at h
    · cases h
    · rename_i e1
      rw [if_neg e1]
      split at h
      · cases h
      · rename_i e2
        rw [if_neg e2]
        split at h
        · rename_i e3
          rw [if_pos e3]
          exact ⟨by simp only []; omega, by simp only []; omega⟩
        · cases h
end Go.Proofs.YtcgefpeachgchaaDoor
