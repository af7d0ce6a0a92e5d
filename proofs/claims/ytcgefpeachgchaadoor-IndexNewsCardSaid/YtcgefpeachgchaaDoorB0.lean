/- Plain: runs of bytes; what a way's text comes to. -/
import Derived.Lib.Bytealg
import Derived.Test.YtcgefpeachgchaaDoorA1
namespace Go.Proofs.YtcgefpeachgchaaDoor
open Go Go.RowKit
def spanLen (p : UInt8 → Bool) (l : List UInt8) (k : Nat) : Nat := ((l.drop k).takeWhile p).length
def AllIn (p : UInt8 → Bool) (l : List UInt8) (a n : Nat) : Prop := ∀ j, a ≤ j → j < n → ∀ c, l[j]? = some c → p c = true
theorem AllIn.self (p : UInt8 → Bool) (l : List UInt8) (a : Nat) : AllIn p l a a := fun j h1 h2 => by omega
theorem AllIn.snoc {p : UInt8 → Bool} {l : List UInt8} {a n : Nat} {c : UInt8} (h : AllIn p l a n) (hc : l[n]? = some c) (hp : p c = true) : AllIn p l a (n + 1) := by
  intro j h1 h2 d hd
  by_cases e : j = n
  · subst e; rw [hc] at hd; injection hd with hd; subst hd; exact hp
  · exact h j h1 (by omega) d hd
theorem span_end {p : UInt8 → Bool} {l : List UInt8} {a n : Nat} (h1 : a ≤ n) (hn : n ≤ l.length) (hall : AllIn p l a n) (hstop : n = l.length ∨ ∃ c, l[n]? = some c ∧ p c = false) : spanLen p l a = n - a := by
  obtain ⟨d, rfl⟩ : ∃ d, n = a + d := ⟨n - a, by omega⟩
  clear h1
  induction d generalizing a with
  | zero =>
    unfold spanLen
    rcases hstop with h | ⟨c, hc, hp⟩
    · rw [List.drop_eq_nil_of_le (by omega)]; simp
    · have hl : a < l.length := (List.getElem?_eq_some_iff.1 hc).1
      rw [List.drop_eq_getElem_cons hl]
      have : l[a] = c := by have := List.getElem?_eq_getElem hl; simp at hc; rw [hc] at this; injection this with this; exact this.symm
      rw [this, List.takeWhile_cons, if_neg (by rw [hp]; simp)]; simp
  | succ d ih =>
    have hl : a < l.length := by omega
    have := ih (a := a + 1) (by omega) (fun j q1 q2 => hall j (by omega) (by omega)) (by rw [show a + 1 + d = a + (d + 1) from by omega]; exact hstop)
    unfold spanLen at this ⊢
    rw [List.drop_eq_getElem_cons hl, List.takeWhile_cons, if_pos (hall a (Nat.le_refl _) (by omega) _ (List.getElem?_eq_getElem hl)), List.length_cons, this]
    omega
theorem span_le (p : UInt8 → Bool) (l : List UInt8) (a : Nat) : spanLen p l a ≤ l.length - a := by
  unfold spanLen
  have := List.takeWhile_prefix (p := p) (l := l.drop a) |>.length_le
  simpa using this
/- the bytes that stand in a list of bytes -/
def inB (of : List UInt8) (c : UInt8) : Bool := decide (0 ≤ Lib.indexByte of c)
def bDec : List UInt8 := [48, 49, 50, 51, 52, 53, 54, 55, 56, 57]
def bLow : List UInt8 := [97, 98, 99, 100, 101, 102, 103, 104, 105, 106, 107, 108, 109, 110, 111, 112, 113, 114, 115, 116, 117, 118, 119, 120, 121, 122]
def bName : List UInt8 := bLow ++ bDec ++ [95]
theorem allB (p : UInt8 → Bool) (h : ∀ n : Fin 256, p (UInt8.ofNat n.val) = true) (c : UInt8) : p c = true := by
  have := h ⟨c.toNat, c.toNat_lt⟩
  simpa using this
theorem inB_dec : inB bDec = digB := by
  funext c
  have := allB (fun c => inB bDec c == digB c) (by decide +kernel) c
  simpa using this
theorem inB_low : inB bLow = lowB := by
  funext c
  have := allB (fun c => inB bLow c == lowB c) (by decide +kernel) c
  simpa using this
theorem inB_name : inB bName = inName := by
  funext c
  have := allB (fun c => inB bName c == inName c) (by decide +kernel) c
  simpa using this
end Go.Proofs.YtcgefpeachgchaaDoor
