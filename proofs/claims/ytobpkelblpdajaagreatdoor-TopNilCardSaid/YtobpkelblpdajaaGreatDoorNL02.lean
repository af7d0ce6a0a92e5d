/- Small plain things: bytes, names, how a walk spells them. -/
import Derived.Test.YtobpkelblpdajaaGreatDoorNL01
set_option linter.unusedVariables false
set_option linter.unusedSimpArgs false
set_option linter.unusedSectionVars false
namespace Go.Proofs.YtobpkelblpdajaaGreatDoor
open Go Go.RowKit
def lowB (b : UInt8) : Bool := decide (97 ≤ b.toNat ∧ b.toNat ≤ 122)
def digB (b : UInt8) : Bool := decide (48 ≤ b.toNat ∧ b.toNat ≤ 57)
def inName (b : UInt8) : Bool := lowB b || digB b || (b.toNat == 95)
def nameB (l : List UInt8) : Bool := match l with
  | [] => false
  | c :: r => lowB c && r.all inName && decide (r.length ≤ 31)

theorem nameB_false_of_len {l : List UInt8} (h : l.length < 1 ∨ 32 < l.length) : nameB l = false := by
  cases l with
  | nil => rfl
  | cons c r => simp only [List.length_cons] at h; simp only [nameB]; have : ¬ r.length ≤ 31 := (by omega); simp [this]
def okTo (l : List UInt8) (k : Nat) : Prop := ∀ j, j < k → ∀ c, l[j]? = some c → inName c = true ∧ (j = 0 → lowB c = true)

theorem okTo_zero (l : List UInt8) : okTo l 0 := fun j hj => by omega
theorem okTo_succ {l : List UInt8} {k : Nat} {c : UInt8} (h : okTo l k) (hc : l[k]? = some c) (h1 : inName c = true) (h2 : k = 0 → lowB c = true) : okTo l (k + 1) := by
  intro j hj d hd
  by_cases e : j = k
  · subst e; rw [hc] at hd; injection hd with hd; subst hd; exact ⟨h1, h2⟩
  · exact h j (by omega) d hd
theorem nameB_of_ok {l : List UInt8} (h1 : 1 ≤ l.length) (h2 : l.length ≤ 32) (h : okTo l l.length) : nameB l = true := by
  cases l with
  | nil => simp at h1
  | cons c r =>
    simp only [nameB, Bool.and_eq_true, decide_eq_true_eq, List.all_eq_true]
    refine ⟨⟨(h 0 (by simp) c (by simp)).2 rfl, ?_⟩, by simp at h2; omega⟩
    intro x hx
    obtain ⟨i, hi, e⟩ := List.mem_iff_getElem.1 hx
    exact (h (i + 1) (by simp; omega) x (by simp [e, hi])).1
theorem nameB_bad {l : List UInt8} {k : Nat} {c : UInt8} (hc : l[k]? = some c) (h : inName c = false ∨ (k = 0 ∧ lowB c = false)) : nameB l = false := by
  cases l with
  | nil => rfl
  | cons d r =>
    cases hb : nameB (d :: r) with
    | false => rfl
    | true =>
      simp only [nameB, Bool.and_eq_true, decide_eq_true_eq, List.all_eq_true] at hb
      obtain ⟨⟨a, b⟩, _⟩ := hb
      rcases h with h | ⟨rfl, h⟩
      · cases k with
        | zero =>
          simp at hc; subst hc
          simp [inName, a] at h
        | succ k =>
          have := b c (List.mem_of_getElem? (by simpa using hc))
          rw [this] at h; cases h
      · simp at hc; subst hc; rw [a] at h; cases h
theorem byte_cases (c : UInt8) : (97 ≤ c.toNat ∧ c.toNat ≤ 122) ∨ (48 ≤ c.toNat ∧ c.toNat ≤ 57) ∨ c.toNat = 95 ∨ c.toNat < 48 ∨ (57 < c.toNat ∧ c.toNat < 95) ∨ c.toNat = 96 ∨ 122 < c.toNat := by omega
theorem inName_yes {c : UInt8} (h : (97 ≤ c.toNat ∧ c.toNat ≤ 122) ∨ (48 ≤ c.toNat ∧ c.toNat ≤ 57) ∨ c.toNat = 95) : inName c = true := by
  simp only [inName, lowB, digB, Bool.or_eq_true, decide_eq_true_eq, beq_iff_eq]; omega
theorem inName_no {c : UInt8} (h : c.toNat < 48 ∨ (57 < c.toNat ∧ c.toNat < 95) ∨ c.toNat = 96 ∨ 122 < c.toNat) : inName c = false := by
  cases e : inName c with
  | false => rfl
  | true => simp only [inName, lowB, digB, Bool.or_eq_true, decide_eq_true_eq, beq_iff_eq] at e; omega
theorem lowB_yes {c : UInt8} (h : 97 ≤ c.toNat ∧ c.toNat ≤ 122) : lowB c = true := by simpa [lowB] using h
theorem lowB_no {c : UInt8} (h : ¬ (97 ≤ c.toNat ∧ c.toNat ≤ 122)) : lowB c = false := by simp only [lowB, decide_eq_false_iff_not]; exact h
theorem loop_eq (s : ByteArray) (n i : Nat) (r : List UInt8) (h : s.size - i = n) (hi : i ≤ s.size): ByteArray.toList.loop s i r = r.reverse ++ s.data.toList.drop i := by
  induction n generalizing i r with
  | zero =>
    unfold ByteArray.toList.loop
    rw [if_neg (by omega), List.drop_eq_nil_of_le (by simp; have : s.data.size = s.size := rfl; omega)]
    simp
  | succ n ih =>
    unfold ByteArray.toList.loop
    have hl : i < s.data.toList.length := by simp; have : s.data.size = s.size := rfl; omega
    rw [if_pos (by omega), ih (i+1) _ (by omega) (by omega), List.drop_eq_getElem_cons hl]
    simp [ByteArray.get!, getElem!_pos]
    have : i < s.data.size := by simpa using hl
    simp [Array.getElem!_eq_getD, Array.getD]
    rw [dif_pos (by omega)]
theorem bytes_toList (s : ByteArray) : s.toList = s.data.toList := by
  unfold ByteArray.toList
  rw [loop_eq s _ 0 [] rfl (by omega)]; simp
theorem isEmpty_of {s : ByteArray} (h : 1 ≤ s.size) : s.toList.isEmpty = false := by
  have : s.toList.length = s.size := by rw [bytes_toList]; simp
  cases e : s.toList with
  | nil => rw [e] at this; simp at this; omega
  | cons => rfl
theorem ret_bool {a b : Bool} (h : a = b) : Ending.returned (.bool a) = Ending.returned (.bool b) := by rw [h]
theorem zero_of {s : ByteArray} {h : 0 < s.size} {c d : UInt8} (hd : s[0] = d) (hc : s.data.toList[0]? = some c) : c = d := by
  subst hd
  have : 0 < s.data.toList.length := by simpa using h
  rw [List.getElem?_eq_getElem this] at hc
  injection hc with hc
  rw [← hc]; rfl
theorem ret_str {a b : ByteArray} (h : a = b) : Ending.returned (.string a) = Ending.returned (.string b) := by rw [h]
theorem get_at (s : ByteArray) (k : Nat) (h : k < s.size) : s.data.toList[k]? = some s[k] := by
  rw [List.getElem?_eq_getElem (by simpa using h)]; rfl
theorem len_list (s : ByteArray) : s.data.toList.length = s.size := by simp
theorem getD_at (s : ByteArray) (k : Nat) (h : k < s.size) : s.data.toList.getD k 0 = s[k] := by
  rw [List.getD_eq_getElem?_getD, get_at s k h]; rfl
theorem int_beq (a b : Nat) : ((a : Int) == (b : Int)) = decide (a = b) := by
  by_cases h : a = b
  · subst h; simp
  · rw [beq_eq_false_iff_ne.2 (by omega), decide_eq_false h]
theorem list_ne_one {s : ByteArray} {c : UInt8} (h : s.size ≠ 1) : (s.toList == [c]) = false := by
  rw [beq_eq_false_iff_ne, bytes_toList]
  intro e
  have := congrArg List.length e
  rw [len_list] at this; exact h this
theorem isEmpty_nil {s : ByteArray} (h : s.size = 0) : s.toList.isEmpty = true := by
  rw [bytes_toList, ByteArray.size_eq_zero_iff.1 h]; rfl
theorem below_drewN {B : Nat} {a w : World} (h : Below B a w) (n : Nat) : Below B a (w.drewN n) := ⟨h.os, h.tape, h.output, h.size, h.block⟩
theorem bcell {W w1 : World} (hb : Below W.heap.size W w1) : (∀ b o, b < W.heap.size → w1.cell? ⟨b, o, none⟩ = W.cell? ⟨b, o, none⟩) ∧ (∀ b o, b < W.heap.size → w1.frozen? ⟨b, o, none⟩ = W.frozen? ⟨b, o, none⟩) :=
  ⟨fun b o h => hb.cell (p := ⟨b, o, none⟩) h, fun b o h => hb.frozen (p := ⟨b, o, none⟩) h⟩
theorem bytes_below (w : World) (e : TypeId) (s : ByteArray) : Below w.heap.size w (Lib.bytesWorld w e s) :=
  ⟨rfl, rfl, rfl, by rw [Lib.bytesWorld_size]; omega, fun k hk => Lib.bytesWorld_at_old w e s k hk⟩
theorem ret_int {k : IntKind} {a b : Int} (h : a = b) : Ending.returned (.int k a) = .returned (.int k b) := by rw [h]
end Go.Proofs.YtobpkelblpdajaaGreatDoor
