/- Floats that are whole: what Floor, Ceil and Trunc give, as an int. -/
import Derived.Test.YtbemeapjeipjlaaGreatDoorQL12
import Derived.Laws.FloatArith
set_option linter.unusedVariables false
set_option linter.unusedSimpArgs false
namespace Go.Proofs.YtbemeapjeipjlaaGreatDoor
open Go Go.RowKit
open Ieee (Datum Toward)
theorem f64_binade : Ieee.double.binade = 4503599627370496 := by kernel_rfl
theorem f64_sign : Ieee.double.signWeight = 9223372036854775808 := by kernel_rfl
theorem f64_inf : Ieee.double.infRung = 9218868437227405312 := by kernel_rfl
theorem f64_least : Ieee.double.leastPlace = -1074 := by kernel_rfl
theorem read_word (s : Bool) (k m : Nat) (hk : k ≤ 2045) (h1 : 4503599627370496 ≤ m) (h2 : m < 9007199254740992) :
    Ieee.double.read (Ieee.double.word s (k * 4503599627370496 + m)) = .number s m (-1074 + k) := by
  unfold Ieee.Format.read Ieee.Format.word
  rw [f64_sign, f64_binade, f64_inf, f64_least]
  have hr : k * 4503599627370496 + m < 9218868437227405312 := by omega
  have e1 : (if s = true then 9223372036854775808 + (k * 4503599627370496 + m) else k * 4503599627370496 + m) / 9223372036854775808 % 2 = if s = true then 1 else 0 := by
    split <;> omega
  have e2 : (if s = true then 9223372036854775808 + (k * 4503599627370496 + m) else k * 4503599627370496 + m) % 9223372036854775808 = k * 4503599627370496 + m := by
    split <;> omega
  simp only [e1, e2]
  rw [if_neg (by omega), if_pos hr]
  have e3 : (k * 4503599627370496 + m) % 4503599627370496 = m - 4503599627370496 := by omega
  have e4 : (k * 4503599627370496 + m) / 4503599627370496 = k + 1 := by omega
  rw [e3, e4]
  simp only [Datum.number.injEq]
  refine ⟨by cases s <;> rfl, by omega, by omega⟩
theorem read_zero (s : Bool) : Ieee.double.read (Ieee.double.word s 0) = .number s 0 (-1074) := by
  cases s <;> kernel_rfl
theorem read_number {x : Nat} {s : Bool} {m : Nat} {e : Int} (h : Ieee.double.read x = .number s m e) : m < 9007199254740992 ∧ (4503599627370496 ≤ m ∨ e = -1074) ∧ -1074 ≤ e := by
  unfold Ieee.Format.read at h
  rw [f64_sign, f64_binade, f64_inf, f64_least] at h
  simp only at h
  split at h
  · injection h with h1 h2 h3; subst h2; subst h3; omega
  · split at h
    · injection h with h1 h2 h3; subst h2; subst h3; omega
    · split at h <;> cases h
theorem cut_none (way : Toward) (s : Bool) (n : Nat) : way.cut s n 0 = n := by
  unfold Toward.cut
  simp [Nat.mod_one]
  cases way <;> simp
theorem nearest_small (s : Bool) (M : Nat) (h0 : 0 < M) (h : M < 9007199254740992) :
    ∃ j, M.log2 + j = 52 ∧ Ieee.double.nearest s M 0 = Ieee.double.word s ((1022 + M.log2) * 4503599627370496 + M * 2 ^ j) ∧ 4503599627370496 ≤ M * 2 ^ j ∧ M * 2 ^ j < 9007199254740992 := by
  have hL : M.log2 ≤ 52 := by
    have := (Nat.log2_lt (by omega : M ≠ 0) (k := 53)).2 (by omega)
    omega
  refine ⟨52 - M.log2, by omega, ?_, ?_, ?_⟩
  · unfold Ieee.Format.nearest
    rw [if_neg (by omega), f64_least, f64_binade, f64_inf]
    have e0 : max ((0 : Int) + (M.log2 : Int) - (Ieee.double.fractionBits : Int)) (-1074) = (M.log2 : Int) - 52 := by
      have : Ieee.double.fractionBits = 52 := rfl
      rw [this]; omega
    simp only [e0]
    rw [show ((M.log2 : Int) - 52 - 0).toNat = 0 by omega, cut_none, show ((0 : Int) - ((M.log2 : Int) - 52)).toNat = 52 - M.log2 by omega, show ((M.log2 : Int) - 52 - -1074).toNat = 1022 + M.log2 by omega, Nat.shiftLeft_eq]
    have hlt : M * 2 ^ (52 - M.log2) < 9007199254740992 := by
      have h1 := Nat.lt_log2_self (n := M)
      calc M * 2 ^ (52 - M.log2) < 2 ^ (M.log2 + 1) * 2 ^ (52 - M.log2) := Nat.mul_lt_mul_of_pos_right h1 (Nat.two_pow_pos _)
        _ = 2 ^ 53 := by rw [← Nat.pow_add]; congr 1; omega
        _ = 9007199254740992 := by decide
    rw [Nat.min_eq_left (by omega)]
  · have h1 := Nat.log2_self_le (n := M) (by omega)
    calc 4503599627370496 = 2 ^ 52 := by decide
      _ = 2 ^ M.log2 * 2 ^ (52 - M.log2) := by rw [← Nat.pow_add]; congr 1; omega
      _ ≤ M * 2 ^ (52 - M.log2) := Nat.mul_le_mul_right _ h1
  · have h1 := Nat.lt_log2_self (n := M)
    calc M * 2 ^ (52 - M.log2) < 2 ^ (M.log2 + 1) * 2 ^ (52 - M.log2) := Nat.mul_lt_mul_of_pos_right h1 (Nat.two_pow_pos _)
      _ = 2 ^ 53 := by rw [← Nat.pow_add]; congr 1; omega
      _ = 9007199254740992 := by decide
theorem log2_eq {M k : Nat} (h1 : 2 ^ k ≤ M) (h2 : M < 2 ^ (k + 1)) : M.log2 = k := by
  have h0 : M ≠ 0 := by have := Nat.two_pow_pos k; omega
  have a := (Nat.log2_lt h0 (k := k + 1)).2 h2
  have b := (Nat.le_log2 h0 (k := k)).2 h1
  omega
theorem toInt_neg (s : Bool) (M j : Nat) (hj : j ≤ 52) (h1 : 4503599627370496 ≤ M * 2 ^ j) (h2 : M * 2 ^ j < 9007199254740992) : (Datum.number s (M * 2 ^ j) (-(j : Int))).toInt .zero = some (Ieee.signed s M 0) := by
  have hl : (M * 2 ^ j).log2 = 52 := log2_eq (by omega) (by omega)
  unfold Datum.toInt Datum.integral
  simp only
  rw [show (-(j : Int)).toNat = 0 by omega, show (-(-(j : Int))).toNat = j by omega]
  unfold Toward.cut
  simp only [Nat.shiftLeft_zero, hl, Bool.toNat_false, Nat.add_zero]
  rw [Nat.min_eq_left (by omega), Nat.one_shiftLeft, Nat.mul_div_cancel _ (Nat.two_pow_pos _)]
theorem nearest_back (s : Bool) (M : Nat) (h : M < 9007199254740992) : (Ieee.double.read (Ieee.double.nearest s M 0)).toInt .zero = some (Ieee.signed s M 0) := by
  by_cases h0 : M = 0
  · subst h0
    have : Ieee.double.nearest s 0 0 = Ieee.double.word s 0 := by unfold Ieee.Format.nearest; rw [if_pos rfl]
    rw [this, read_zero]
    cases s <;> rfl
  · obtain ⟨j, hj, h1, h2, h3⟩ := nearest_small s M (by omega) h
    rw [h1, read_word s _ _ (by omega) h2 h3, show (-1074 + ((1022 + M.log2 : Nat) : Int)) = -(j : Int) by omega]
    exact toInt_neg s M j (by omega) h2 h3
theorem nearest_big (s : Bool) (m e : Nat) (h1 : 4503599627370496 ≤ m) (h2 : m < 9007199254740992) (he : e ≤ 11) : Ieee.double.read (Ieee.double.nearest s (m * 2 ^ e) 0) = .number s m e := by
  have hl : (m * 2 ^ e).log2 = 52 + e := log2_eq (by rw [Nat.pow_add]; exact Nat.mul_le_mul_right _ h1) (by rw [show 52 + e + 1 = 53 + e by omega, Nat.pow_add]; exact Nat.mul_lt_mul_of_pos_right h2 (Nat.two_pow_pos _))
  have hp := Nat.two_pow_pos e
  have hne : m * 2 ^ e ≠ 0 := by have := Nat.mul_pos (by omega : 0 < m) hp; omega
  have : Ieee.double.nearest s (m * 2 ^ e) 0 = Ieee.double.word s ((1074 + e) * 4503599627370496 + m) := by
    unfold Ieee.Format.nearest
    rw [if_neg hne, f64_least, f64_binade, f64_inf, hl]
    have e0 : max ((0 : Int) + ((52 + e : Nat) : Int) - (Ieee.double.fractionBits : Int)) (-1074) = (e : Int) := by
      have : Ieee.double.fractionBits = 52 := rfl
      rw [this]; omega
    simp only [e0]
    rw [show ((e : Int) - 0).toNat = e by omega, show ((0 : Int) - (e : Int)).toNat = 0 by omega, show ((e : Int) - -1074).toNat = 1074 + e by omega, Nat.shiftLeft_zero]
    have hc : Toward.even.cut s (m * 2 ^ e) e = m := by
      unfold Toward.cut
      simp only [hl]
      rw [Nat.min_eq_left (by omega), Nat.one_shiftLeft, Nat.mul_div_cancel _ hp, Nat.mul_mod_left]
      have : (decide (2 ^ e < 2 * 0) || 2 ^ e == 2 * 0 && m % 2 == 1) = false := by
        have : 2 ^ e ≠ 0 := by omega
        simp
      rw [this]; rfl
    rw [hc, Nat.min_eq_left (by omega)]
  rw [this, read_word s _ _ (by omega) h1 h2]
  congr 1; omega
theorem cut_small (way : Toward) (s : Bool) (m d : Nat) (h : m < 9007199254740992) (hd : 0 < d) : way.cut s m d < 9007199254740992 := by
  unfold Toward.cut
  simp only
  refine Nat.lt_of_le_of_lt (Nat.add_le_add_left (Bool.toNat_le _) _) ?_
  have hg : 2 ≤ 1 <<< min d (m.log2 + 2) := by
    rw [Nat.one_shiftLeft]
    calc 2 = 2 ^ 1 := rfl
      _ ≤ 2 ^ min d (m.log2 + 2) := Nat.pow_le_pow_right (by omega) (by omega)
  have : m / (1 <<< min d (m.log2 + 2)) ≤ m / 2 := Nat.div_le_div_left hg (by omega)
  omega
theorem signed_zero (s : Bool) (M : Nat) : Ieee.signed s M 0 = if s = true then -(M : Int) else (M : Int) := by
  unfold Ieee.signed; rw [Nat.shiftLeft_zero]
/- What comes of making a float whole, and an int of it. -/
theorem whole_back (way : Toward) (x : Nat) (n : Int) (h : (FloatKind.f64.decode x).toInt way = some n) (h1 : -9223372036854775808 ≤ n) (h2 : n ≤ 9223372036854775808) :
    (FloatKind.f64.decode (FloatKind.f64.encode ((FloatKind.f64.decode x).integral way))).toInt .zero = some n := by
  change (Ieee.double.read x).toInt way = some n at h
  change (Ieee.double.read (Ieee.double.write ((Ieee.double.read x).integral way))).toInt .zero = some n
  cases hd : Ieee.double.read x with
  | infinity s => rw [hd] at h; cases h
  | nan s t => rw [hd] at h; cases h
  | number s m e =>
    rw [hd] at h
    obtain ⟨q1, q2, q3⟩ := read_number hd
    unfold Datum.toInt Datum.integral at h
    simp only [Option.some.injEq] at h
    subst h
    unfold Datum.integral Ieee.Format.write
    simp only
    by_cases he : 0 ≤ e
    · obtain ⟨k, rfl⟩ := Int.eq_ofNat_of_zero_le he
      have hm : 4503599627370496 ≤ m := by omega
      rw [show ((k : Int)).toNat = k by omega, show (-(k : Int)).toNat = 0 by omega, cut_none, signed_zero, Nat.shiftLeft_eq] at h1 h2 ⊢
      have hk : k ≤ 11 := by
        by_cases hk : k ≤ 11
        · exact hk
        · exfalso
          have : m * 2 ^ 12 ≤ m * 2 ^ k := Nat.mul_le_mul_left _ (Nat.pow_le_pow_right (by omega) (by omega))
          generalize m * 2 ^ k = z at *
          cases s <;> simp at h1 h2 <;> omega
      rw [nearest_big s m k hm q1 hk]
      unfold Datum.toInt Datum.integral
      simp only
      rw [show ((k : Int)).toNat = k by omega, show (-(k : Int)).toNat = 0 by omega, cut_none, signed_zero, Nat.shiftLeft_eq]
    · rw [show e.toNat = 0 by omega, Nat.shiftLeft_zero] at h1 h2 ⊢
      exact nearest_back s _ (cut_small way s m _ q1 (by omega))
end Go.Proofs.YtbemeapjeipjlaaGreatDoor
/- Walks: math.IsNaN, Trunc, Floor, Ceil; query.one, exact, ahead, behind. -/
namespace Go.Proofs.YtbemeapjeipjlaaGreatDoor
open Go Go.RowKit
open Ieee (Datum Toward)
/- How two floats stand to each other. -/
def ordF (x y : Nat) : Option Ordering := FloatKind.f64.format.order x y
def nanB (x : Nat) : Bool := ordF x x != some .eq
theorem read_low : Ieee.double.read 14114281232179134464 = .number true 4503599627370496 11 := by kernel_rfl
theorem read_high : Ieee.double.read 4890909195324358656 = .number false 4503599627370496 11 := by kernel_rfl
theorem not_nan {x : Nat} (h : nanB x = false) : ∀ s t, FloatKind.f64.decode x ≠ .nan s t := by
  intro s t hd
  change Ieee.double.read x = .nan s t at hd
  have : ordF x x = none := by
    change (Ieee.double.read x).order (Ieee.double.read x) = none
    rw [hd]; rfl
  unfold nanB at h
  rw [this] at h; cases h
theorem in_range (way : Toward) {x : Nat} (hn : ∀ s t, FloatKind.f64.decode x ≠ .nan s t) (h1 : ordF x 14114281232179134464 ≠ some .lt) (h2 : ordF x 4890909195324358656 = some .lt) :
    ∃ n, (FloatKind.f64.decode x).toInt way = some n ∧ -9223372036854775808 ≤ n ∧ n < 9223372036854775808 := by
  change (Ieee.double.read x).order (Ieee.double.read 14114281232179134464) ≠ some .lt at h1
  change (Ieee.double.read x).order (Ieee.double.read 4890909195324358656) = some .lt at h2
  change ∃ n, (Ieee.double.read x).toInt way = some n ∧ _
  rw [read_low] at h1
  rw [read_high] at h2
  cases hd : Ieee.double.read x with
  | nan s t => exact absurd hd (hn s t)
  | infinity s => rw [hd] at h1 h2; cases s <;> simp [Datum.order] at h1 h2
  | number s m e =>
    rw [hd] at h1 h2
    obtain ⟨q1, q2, q3⟩ := read_number hd
    unfold Datum.order at h1 h2
    simp only [Option.some.injEq, ne_eq] at h1 h2
    unfold Datum.toInt Datum.integral
    simp only [Option.some.injEq, exists_eq_left']
    by_cases he : 0 ≤ e
    · obtain ⟨k, rfl⟩ := Int.eq_ofNat_of_zero_le he
      rw [show ((k : Int)).toNat = k by omega, show (-(k : Int)).toNat = 0 by omega, cut_none, signed_zero, Nat.shiftLeft_eq]
      have hm : 4503599627370496 ≤ m := by omega
      by_cases hk : k ≤ 10
      · have : m * 2 ^ k ≤ 9007199254740991 * 2 ^ 10 := Nat.mul_le_mul (by omega) (Nat.pow_le_pow_right (by omega) hk)
        generalize m * 2 ^ k = z at *
        cases s <;> simp <;> omega
      · have e0 : min (k : Int) 11 = 11 := by omega
        rw [e0, show ((k : Int) - 11).toNat = k - 11 by omega, show ((11 : Int) - 11).toNat = 0 by omega] at h1 h2
        unfold Ieee.signed at h1 h2
        simp only [Nat.shiftLeft_zero, Nat.shiftLeft_eq, if_true] at h1 h2
        by_cases hk2 : k = 11
        · subst hk2
          cases s
          · simp [Int.compare_eq_lt] at h1 h2; omega
          · simp [Int.compare_eq_lt] at h1 h2 ⊢; omega
        · have : m * 2 ^ 1 ≤ m * 2 ^ (k - 11) := Nat.mul_le_mul_left _ (Nat.pow_le_pow_right (by omega) (by omega))
          generalize m * 2 ^ (k - 11) = z at *
          exfalso
          cases s
          · simp [Int.compare_eq_lt] at h1 h2; omega
          · simp [Int.compare_eq_lt] at h1 h2; omega
    · have := cut_small way s m (-e).toNat q1 (by omega)
      rw [show e.toNat = 0 by omega, Nat.shiftLeft_zero, signed_zero]
      generalize way.cut s m (-e).toNat = z at *
      cases s <;> simp <;> omega
end Go.Proofs.YtbemeapjeipjlaaGreatDoor
/- Walks: math.IsNaN, Trunc, Floor, Ceil; query.one, exact, ahead, behind. -/
namespace Go.Proofs.YtbemeapjeipjlaaGreatDoor
open Go Go.RowKit
open Ieee (Datum Toward)
def wholeF (way : Toward) (x : Nat) : Nat := FloatKind.f64.encode ((FloatKind.f64.decode x).integral way)
theorem run_to_integral {P : Program} (name : String) (way : Toward) (x : Nat) (w : World) (hn : ∀ s t, FloatKind.f64.decode x ≠ .nan s t) :
    (Extern.MathFloor.toIntegral name way #[.float .f64 x]).run P w = .ok (.float .f64 (wholeF way x)) w := by
  have key : ∀ d, FloatKind.f64.decode x = d → (Extern.MathFloor.toIntegral name way #[.float .f64 x]).run P w = .ok (.float .f64 (FloatKind.f64.encode (d.integral way))) w := by
    intro d hd
    change Sem.run P (match FloatKind.f64.decode x with | .nan s t => _ | d => (pure (Value.float .f64 (FloatKind.f64.encode (d.integral way))) : Sem Value)) w = _
    rw [hd] at hn ⊢
    cases d with
    | nan s t => exact absurd rfl (hn s t)
    | number s m e => rfl
    | infinity s => rfl
  exact key _ rfl
theorem run_archFloor (x : Nat) (w : World) (hn : ∀ s t, FloatKind.f64.decode x ≠ .nan s t) : (callFunc 180 #[.float .f64 x]).run Tryz.prog w = .ok (.value (.float .f64 (wholeF .down x))) w := by
  rw [run_callFunc_extern Tryz.func180 (by kernel_rfl) (by kernel_rfl) (by kernel_rfl) (e := Extern.MathFloor.toIntegral "math.archFloor" .down) (by kernel_rfl), run_to_integral _ _ _ _ hn]; rfl
set_option maxRecDepth 100000 in
set_option maxHeartbeats 1000000 in
theorem mathFloor_any (x : Nat) (w : World) (hn : ∀ s t, FloatKind.f64.decode x ≠ .nan s t) : Calls Tryz.prog 155 #[.float .f64 x] w (fun e w' => e = .returned (.float .f64 (wholeF .down x)) ∧ w = w') := by
  have k0 := fun (w : World) => run_archFloor x w hn
  clear hn
  go_enter Tryz.func155, Tryz.ntmps155
  go_wp2
  go_ret
  exact ⟨rfl, rfl⟩
theorem run_archCeil (x : Nat) (w : World) (hn : ∀ s t, FloatKind.f64.decode x ≠ .nan s t) : (callFunc 178 #[.float .f64 x]).run Tryz.prog w = .ok (.value (.float .f64 (wholeF .up x))) w := by
  rw [run_callFunc_extern Tryz.func178 (by kernel_rfl) (by kernel_rfl) (by kernel_rfl) (e := Extern.MathFloor.toIntegral "math.archCeil" .up) (by kernel_rfl), run_to_integral _ _ _ _ hn]; rfl
set_option maxRecDepth 100000 in
set_option maxHeartbeats 1000000 in
theorem mathCeil_any (x : Nat) (w : World) (hn : ∀ s t, FloatKind.f64.decode x ≠ .nan s t) : Calls Tryz.prog 154 #[.float .f64 x] w (fun e w' => e = .returned (.float .f64 (wholeF .up x)) ∧ w = w') := by
  have k0 := fun (w : World) => run_archCeil x w hn
  clear hn
  go_enter Tryz.func154, Tryz.ntmps154
  go_wp2
  go_ret
  exact ⟨rfl, rfl⟩
theorem run_archTrunc (x : Nat) (w : World) (hn : ∀ s t, FloatKind.f64.decode x ≠ .nan s t) : (callFunc 166 #[.float .f64 x]).run Tryz.prog w = .ok (.value (.float .f64 (wholeF .zero x))) w := by
  rw [run_callFunc_extern Tryz.func166 (by kernel_rfl) (by kernel_rfl) (by kernel_rfl) (e := Extern.MathFloor.toIntegral "math.archTrunc" .zero) (by kernel_rfl), run_to_integral _ _ _ _ hn]; rfl
set_option maxRecDepth 100000 in
set_option maxHeartbeats 1000000 in
theorem mathTrunc_any (x : Nat) (w : World) (hn : ∀ s t, FloatKind.f64.decode x ≠ .nan s t) : Calls Tryz.prog 151 #[.float .f64 x] w (fun e w' => e = .returned (.float .f64 (wholeF .zero x)) ∧ w = w') := by
  have k0 := fun (w : World) => run_archTrunc x w hn
  clear hn
  go_enter Tryz.func151, Tryz.ntmps151
  go_wp2
  go_ret
  exact ⟨rfl, rfl⟩
set_option maxRecDepth 100000 in
set_option maxHeartbeats 1000000 in
theorem isNaN_any (x : Nat) (w : World) : Calls Tryz.prog 129 #[.float .f64 x] w (fun e w' => e = .returned (.bool (nanB x)) ∧ w = w') := by
  go_enter Tryz.func129, Tryz.ntmps129
  go_wp2
  go_ret
  exact ⟨rfl, rfl⟩
/- Of all NaNs one. -/
def oneV (x : Nat) : Nat := if nanB x = true then 9221120237041090561 else x
set_option maxRecDepth 100000 in
set_option maxHeartbeats 1000000 in
theorem one_any (x : Nat) (w : World) : Calls Tryz.prog 93 #[.float .f64 x] w (fun e w' => e = .returned (.float .f64 (oneV x)) ∧ w = w') := by
  have HN := Lib.hid (isNaN_any x w)
  have k0 : ∀ w : World, (callFunc 132 #[.int .u64 9221120237041090561]).run Tryz.prog w = .ok (.value (.float .f64 9221120237041090561)) w := fun w => run_f64from 9221120237041090561 w
  cases hq : nanB x
  · have HR : Hid (oneV x = x) := Lib.hid (by unfold oneV; rw [hq]; rfl)
    rw [hq] at HN
    clear hq
    go_enter Tryz.func93, Tryz.ntmps93
    go_wp2_with fail
    refine HN.out.mono ?_
    rintro e w1 ⟨rfl, rfl⟩
    go_wp2
    go_ret
    exact ⟨by rw [HR.out]; rfl, rfl⟩
  · have HR : Hid (oneV x = 9221120237041090561) := Lib.hid (by unfold oneV; rw [hq]; rfl)
    rw [hq] at HN
    clear hq
    go_enter Tryz.func93, Tryz.ntmps93
    go_wp2_with fail
    refine HN.out.mono ?_
    rintro e w1 ⟨rfl, rfl⟩
    go_wp2
    go_ret
    exact ⟨by rw [HR.out]; rfl, rfl⟩
end Go.Proofs.YtbemeapjeipjlaaGreatDoor
