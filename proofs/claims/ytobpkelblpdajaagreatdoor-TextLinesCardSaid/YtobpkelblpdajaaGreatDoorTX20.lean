/- Walk: the text of a float: strconv.FormatUint 16, FormatFloat; math.IsInf, IsNaN; text.float, Float, Quote. -/
import Derived.Test.YtobpkelblpdajaaGreatDoorTX19
import Derived.Laws.MakeOwn
import Derived.Test.YtobpkelblpdajaaGreatDoorTX12
import Derived.Lib.ItoaLen
set_option linter.unusedVariables false
set_option linter.unusedSimpArgs false
set_option linter.unusedSectionVars false
namespace Go.Proofs.YtobpkelblpdajaaGreatDoor
open Go Go.RowKit
open Ieee (Datum Toward)
/- How floats stand to each other. -/
theorem read_max : Ieee.double.read 9218868437227405311 = .number false 9007199254740991 971 := by kernel_rfl
theorem read_fin {x : Nat} (h : x % 9223372036854775808 < 9218868437227405312) : ∃ s m i, Ieee.double.read x = .number s m i ∧ m < 9007199254740992 ∧ i ≤ 971 := by
  unfold Ieee.Format.read
  have e1 : Ieee.double.signWeight = 9223372036854775808 := by decide
  have e2 : Ieee.double.infRung = 9218868437227405312 := by decide
  have e3 : Ieee.double.binade = 4503599627370496 := by decide
  have e4 : Ieee.double.leastPlace = -1074 := by decide
  simp only [e1, e2, e3, e4]
  by_cases hs : x % 9223372036854775808 < 4503599627370496
  · rw [if_pos hs]
    exact ⟨_, _, _, rfl, by omega, by omega⟩
  · rw [if_neg hs, if_pos h]
    refine ⟨_, _, _, rfl, ?_, ?_⟩
    · have := Nat.mod_lt (x % 9223372036854775808) (show 0 < 4503599627370496 by decide)
      omega
    · have : x % 9223372036854775808 / 4503599627370496 ≤ 2046 := by omega
      omega
theorem read_nan {x : Nat} (h : 9218868437227405312 < x % 9223372036854775808) : ∃ s f, Ieee.double.read x = .nan s f := by
  unfold Ieee.Format.read
  have e1 : Ieee.double.signWeight = 9223372036854775808 := by decide
  have e2 : Ieee.double.infRung = 9218868437227405312 := by decide
  have e3 : Ieee.double.binade = 4503599627370496 := by decide
  simp only [e1, e2, e3]
  rw [if_neg (by omega), if_neg (by omega), if_neg (by omega)]
  exact ⟨_, _, rfl⟩
theorem signed_le (s : Bool) (m k : Nat) : Ieee.signed s m k ≤ (m <<< k : Nat) := by
  unfold Ieee.signed
  cases s
  · exact Int.le_refl _
  · exact Int.le_trans (Int.neg_nonpos_of_nonneg (Int.natCast_nonneg _)) (Int.natCast_nonneg _)
theorem fin_gt {x : Nat} (h : x % 9223372036854775808 < 9218868437227405312) : (FloatKind.f64.format.order x 9218868437227405311 == some .gt) = false := by
  rw [beq_eq_false_iff_ne]
  intro e
  change (Ieee.double.read x).order (Ieee.double.read 9218868437227405311) = some .gt at e
  obtain ⟨s, m, i, hr, hm, hi⟩ := read_fin h
  rw [hr, read_max] at e
  simp only [Datum.order, Option.some.injEq] at e
  rw [show min i 971 = i by omega, show (i - i).toNat = 0 by omega] at e
  have h1 := signed_le s m 0
  have h2 : Ieee.signed false 9007199254740991 (971 - i).toNat = ((9007199254740991 <<< (971 - i).toNat : Nat) : Int) := rfl
  have h3 : m <<< 0 ≤ 9007199254740991 <<< (971 - i).toNat := by
    rw [Nat.shiftLeft_eq, Nat.shiftLeft_eq]
    have : 1 ≤ 2 ^ (971 - i).toNat := Nat.pow_pos (by decide)
    calc m * 2 ^ 0 ≤ 9007199254740991 * 1 := by omega
      _ ≤ _ := Nat.mul_le_mul_left _ this
  rw [Int.compare_eq_gt] at e
  rw [h2] at e
  omega
theorem nan_gt {x : Nat} (h : 9218868437227405312 < x % 9223372036854775808) : (FloatKind.f64.format.order x 9218868437227405311 == some .gt) = false := by
  obtain ⟨s, f, hr⟩ := read_nan h
  rw [beq_eq_false_iff_ne]
  intro e
  change (Ieee.double.read x).order (Ieee.double.read 9218868437227405311) = some .gt at e
  rw [hr] at e
  cases e
theorem nan_self {x : Nat} (h : 9218868437227405312 < x % 9223372036854775808) : (FloatKind.f64.format.order x x != some .eq) = true := by
  obtain ⟨s, f, hr⟩ := read_nan h
  rw [bne_iff_ne]
  intro e
  change (Ieee.double.read x).order (Ieee.double.read x) = some .eq at e
  rw [hr] at e
  cases e
theorem fin_self {x : Nat} (h : x % 9223372036854775808 < 9218868437227405312) : (FloatKind.f64.format.order x x != some .eq) = false := by
  obtain ⟨s, m, i, hr, -⟩ := read_fin h
  rw [bne_eq_false_iff_eq]
  change (Ieee.double.read x).order (Ieee.double.read x) = some .eq
  rw [hr]
  simp only [Datum.order, Option.some.injEq]
  exact Int.compare_eq_eq.2 rfl
theorem neg_mod (x : Nat) : Op.negFloat .f64 x % 9223372036854775808 = x % 9223372036854775808 := by
  show (x ^^^ 2 ^ 63) % 2 ^ 63 = x % 2 ^ 63
  rw [Nat.xor_mod_two_pow]
  simp
set_option maxRecDepth 100000 in
set_option maxHeartbeats 1000000 in
theorem inf_pos (b : Nat) (r : Bool) (w : World) (k0 : (FloatKind.f64.format.order b 9218868437227405311 == some .gt) = r) : Calls Tryz.prog 128 #[.float .f64 b, .int .i64 1] w (fun e w' => e = .returned (.bool r) ∧ w = w') := by
  have kn : ∀ W : World, (Op.unary .neg (.float .f64 b)).run Tryz.prog W = .ok (.float .f64 (Op.negFloat .f64 b)) W := fun _ => rfl
  go_enter Tryz.func128, Tryz.ntmps128
  go_wp2
  go_ret
  exact ⟨rfl, rfl⟩
set_option maxRecDepth 100000 in
set_option maxHeartbeats 1000000 in
theorem inf_neg (b : Nat) (r : Bool) (w : World) (k0 : (FloatKind.f64.format.order (Op.negFloat .f64 b) 9218868437227405311 == some .gt) = r) : Calls Tryz.prog 128 #[.float .f64 b, .int .i64 (-1)] w (fun e w' => e = .returned (.bool r) ∧ w = w') := by
  have kn : ∀ W : World, (Op.unary .neg (.float .f64 b)).run Tryz.prog W = .ok (.float .f64 (Op.negFloat .f64 b)) W := fun _ => rfl
  go_enter Tryz.func128, Tryz.ntmps128
  go_wp2
  go_ret
  exact ⟨rfl, rfl⟩
set_option maxRecDepth 100000 in
set_option maxHeartbeats 1000000 in
theorem is_nan (b : Nat) (r : Bool) (w : World) (k0 : (FloatKind.f64.format.order b b != some .eq) = r) : Calls Tryz.prog 129 #[.float .f64 b] w (fun e w' => e = .returned (.bool r) ∧ w = w') := by
  go_enter Tryz.func129, Tryz.ntmps129
  go_wp2
  go_ret
  exact ⟨rfl, rfl⟩
set_option maxRecDepth 100000 in
set_option maxHeartbeats 1000000 in
theorem funt16 (b : Nat) (w : World) (h0 : 1152921504606846976 ≤ b) (hb : b < 18446744073709551616) (hd : DeB w) : Calls Tryz.prog 186 #[.int .u64 b, .int .i64 16] w (TextPost (hexN 16 b) w) := by
  have H := Lib.hid (fbits16 b w h0 hb hd)
  clear hd
  obtain ⟨U, hU⟩ : ∃ U : Int, U = (b : Int) := ⟨_, rfl⟩
  rw [← hU] at H ⊢
  clear hU h0 hb
  go_enter Tryz.func186, Tryz.ntmps186
  go_wp2_with fail
  refine H.out.mono ?_
  rintro e w1 ⟨rfl, hbw⟩
  go_wp2
  go_ret
  exact ⟨rfl, hbw⟩
set_option maxRecDepth 100000 in
set_option maxHeartbeats 1000000 in
theorem Funt16 (b : Nat) (w : World) (h0 : 1152921504606846976 ≤ b) (hb : b < 18446744073709551616) (hd : DeB w) : Calls Tryz.prog 130 #[.int .u64 b, .int .i64 16] w (TextPost (hexN 16 b) w) := by
  have H := Lib.hid (funt16 b w h0 hb hd)
  clear hd
  obtain ⟨U, hU⟩ : ∃ U : Int, U = (b : Int) := ⟨_, rfl⟩
  rw [← hU] at H ⊢
  clear hU h0 hb
  go_enter Tryz.func130, Tryz.ntmps130
  go_wp2_with fail
  refine H.out.mono ?_
  rintro e w1 ⟨rfl, hbw⟩
  go_wp2
  go_ret
  exact ⟨rfl, hbw⟩
theorem conv_any {w : World} {B : Nat} {v : Value} {l : List UInt8} (h : OwnB w B v l) : (convert 23 9 v).run Tryz.prog w = .ok (.string ⟨l.toArray⟩) w := by
  have h0 := h
  rcases h.2 with ⟨rfl, hn⟩ | ⟨g, cap, cur, rfl, _⟩
  · have hl : l = [] := List.length_eq_zero_iff.1 hn
    subst hl
    rw [run_convert_bytes_string w 23 9 5 none 0 0 Tryz.underlying23 Tryz.underlying5 Tryz.underlying9]
    rfl
  · exact conv_own rfl h0
set_option maxRecDepth 100000 in
set_option maxHeartbeats 2000000 in
theorem ffloat (b : Nat) (w : World) (hb : b < 18446744073709551616) (hn : b / 4503599627370496 % 2048 ≠ 2047) : Calls Tryz.prog 191 #[.float .f64 b, .int .u8 120, .int .i64 (-1), .int .i64 64] w (TextPost (fltT b) w) := by
  obtain ⟨i0, hi0, hz0, hz1, hz2⟩ := info_parts Tryz.infoByte
  obtain ⟨wm, hm, hom, hgm⟩ := run_make_own (P := Tryz.prog) (w := w) w.heap.size 23 5 i0 _ 1 Tryz.underlying23 hi0 hz0 hz1 .i64 .i64 24 (by rw [hz2]; decide) (by unfold maxLen; decide) (Nat.le_refl _)
  have hbm : Below w.heap.size w wm := (Below.refl _ w).grown hgm (Nat.le_refl _) (fun j hj => by simp at hj)
  have HF := Lib.hid (ftoa_any w.heap.size _ [] b wm hb hn hom hbm.size (by simp))
  have km : (Instr.makeSlice 23 (.int .i64 0) (.int .i64 (max 3 24))).run Tryz.prog w = .ok (.slice (some ⟨w.heap.size, 0, none⟩) 0 24) wm := by
    rw [show max (3 : Int) 24 = 24 from rfl]
    exact hm
  clear hb hn hm hgm
  go_enter Tryz.func191, Tryz.ntmps191
  go_wp2_with fail
  refine HF.out.mono ?_
  rintro e w1 ⟨v1, rfl, ho, hbw⟩
  rw [List.nil_append] at ho
  have hcv := conv_any ho
  obtain ⟨A1, c1, rfl⟩ := ownsRow_form ho
  go_wp2
  go_ret
  exact ⟨rfl, hbm.trans hbw⟩
set_option maxRecDepth 100000 in
set_option maxHeartbeats 1000000 in
theorem Ffloat (b : Nat) (w : World) (hb : b < 18446744073709551616) (hn : b / 4503599627370496 % 2048 ≠ 2047) : Calls Tryz.prog 132 #[.float .f64 b, .int .u8 120, .int .i64 (-1), .int .i64 64] w (TextPost (fltT b) w) := by
  have H := Lib.hid (ffloat b w hb hn)
  clear hb hn
  go_enter Tryz.func132, Tryz.ntmps132
  go_wp2_with fail
  refine H.out.mono ?_
  rintro e w1 ⟨rfl, hbw⟩
  go_wp2
  go_ret
  exact ⟨rfl, hbw⟩
set_option maxRecDepth 100000 in
set_option maxHeartbeats 2000000 in
theorem tfloat (b : Nat) (w : World) (hb : b < 18446744073709551616) (hd : DeB w) : Calls Tryz.prog 74 #[.float .f64 b] w (TextPost (fltT b) w) := by
  by_cases hn : b / 4503599627370496 % 2048 = 2047
  · by_cases hm : b % 4503599627370496 = 0
    · have h2 : b = 9218868437227405312 ∨ b = 18442240474082181120 := by omega
      rcases h2 with rfl | rfl
      · have HP := Lib.hid (fun W => inf_pos 9218868437227405312 true W (by kernel_rfl))
        clear hd hb hn hm
        go_enter Tryz.func74, Tryz.ntmps74
        go_wp2_with fail
        refine (HP.out _).mono ?_
        rintro e w1 ⟨rfl, rfl⟩
        go_wp2
        go_ret
        exact ⟨rfl, Below.refl _ _⟩
      · have HP := Lib.hid (fun W => inf_pos 18442240474082181120 false W (by kernel_rfl))
        have HM := Lib.hid (fun W => inf_neg 18442240474082181120 true W (by kernel_rfl))
        clear hd hb hn hm
        go_enter Tryz.func74, Tryz.ntmps74
        go_wp2_with fail
        refine (HP.out _).mono ?_
        rintro e w1 ⟨rfl, rfl⟩
        go_wp2_with fail
        refine (HM.out _).mono ?_
        rintro e w1 ⟨rfl, rfl⟩
        go_wp2
        go_ret
        exact ⟨rfl, Below.refl _ _⟩
    · have hx : 9218868437227405312 < b % 9223372036854775808 := by omega
      have HP := Lib.hid (fun W => inf_pos b false W (nan_gt hx))
      have HM := Lib.hid (fun W => inf_neg b false W (nan_gt (by rw [neg_mod]; exact hx)))
      have HN := Lib.hid (fun W => is_nan b true W (nan_self hx))
      have HT : Hid (fltT b = [110, 97, 110, 40] ++ (hexN 16 b ++ [41])) := Lib.hid (by unfold fltT; rw [if_pos hn, if_neg hm])
      have HF := Lib.hid (Funt16 b w (by omega) hb hd)
      have HR := Lib.hid (fun W => Tryz.strings_Repeat ⟨#[48]⟩ 0 W (by decide) (by decide))
      have k0 := fun (w : World) => run_f64bits b w
      have hlen := hexN_length 16 b
      generalize hexN 16 b = L at *
      obtain ⟨U, hU⟩ : ∃ U : Int, U = (b : Int) := ⟨_, rfl⟩
      rw [← hU] at k0 HF
      have kl : (⟨L.toArray⟩ : ByteArray).size = 16 := by simpa [ByteArray.size] using hlen
      clear hd hb hn hm hx hU hlen
      go_enter Tryz.func74, Tryz.ntmps74
      go_wp2_with fail
      refine (HP.out _).mono ?_
      rintro e w1 ⟨rfl, rfl⟩
      go_wp2_with fail
      refine (HM.out _).mono ?_
      rintro e w1 ⟨rfl, rfl⟩
      go_wp2_with fail
      refine (HN.out _).mono ?_
      rintro e w1 ⟨rfl, rfl⟩
      go_wp2_with fail
      refine HF.out.mono ?_
      rintro e w1 ⟨rfl, hb1⟩
      go_wp2_with fail
      refine (HR.out _).mono ?_
      rintro e w2 ⟨rfl, hb2⟩
      go_wp2
      go_ret
      refine ⟨?_, hb1.trans (hb2.mono hb1.size)⟩
      rw [HT.out]
      congr 2
  · have hx : b % 9223372036854775808 < 9218868437227405312 := by omega
    have HP := Lib.hid (fun W => inf_pos b false W (fin_gt hx))
    have HM := Lib.hid (fun W => inf_neg b false W (fin_gt (by rw [neg_mod]; exact hx)))
    have HN := Lib.hid (fun W => is_nan b false W (fin_self hx))
    have HF := Lib.hid (Ffloat b w hb hn)
    clear hd hb hn hx
    go_enter Tryz.func74, Tryz.ntmps74
    go_wp2_with fail
    refine (HP.out _).mono ?_
    rintro e w1 ⟨rfl, rfl⟩
    go_wp2_with fail
    refine (HM.out _).mono ?_
    rintro e w1 ⟨rfl, rfl⟩
    go_wp2_with fail
    refine (HN.out _).mono ?_
    rintro e w1 ⟨rfl, rfl⟩
    go_wp2_with fail
    refine HF.out.mono ?_
    rintro e w1 ⟨rfl, hb1⟩
    go_wp2
    go_ret
    exact ⟨rfl, hb1⟩
end Go.Proofs.YtobpkelblpdajaaGreatDoor
/- The text of a value: plain functions and their laws; no program in sight. -/
namespace Go.Proofs.YtobpkelblpdajaaGreatDoor
open Go Go.RowKit
def sepT (ln : Bool) (i d : Nat) : List UInt8 := if ln = true then (if 0 < i then [44] else []) ++ 10 :: List.replicate (2 * (d + 1)) 32 else if 0 < i then [44, 32] else []
def closeT (ln : Bool) (n d : Nat) : List UInt8 := if ln = true ∧ 0 < n then 10 :: List.replicate (2 * d) 32 else []
mutual
def putV (ln : Bool) : V → Nat → List UInt8
  | .nil, _ => [110, 105, 108]
  | .bool b, _ => if b = true then truB else falB
  | .int n, _ => Lib.itoa n
  | .flt b, _ => fltT b
  | .text s, _ => quoteB s.data.toList
  | .bytes l, _ => hexB l
  | .ref n, _ => 64 :: Lib.decDigits n.toNat
  | .list l, d => 91 :: (putL ln l 0 d ++ (closeT ln l.length d ++ [93]))
  | .dict l, d => 123 :: (putD ln l 0 d ++ (closeT ln l.length d ++ [125]))
  | .record c v l, d => c.data.toList ++ 47 :: (Lib.itoa v ++ 123 :: (putD ln l 0 d ++ (closeT ln l.length d ++ [125])))
  | .nothing, _ => []
  | .alien, _ => []
def putL (ln : Bool) : List V → Nat → Nat → List UInt8
  | [], _, _ => []
  | x :: r, i, d => sepT ln i d ++ (putV ln x (d + 1) ++ putL ln r (i + 1) d)
def putD (ln : Bool) : List (ByteArray × V) → Nat → Nat → List UInt8
  | [], _, _ => []
  | (n, x) :: r, i, d => sepT ln i d ++ ((n.data.toList ++ [58, 32] ++ putV ln x (d + 1)) ++ putD ln r (i + 1) d)
end
/- How many values a value is. -/
mutual
def cntV : V → Nat
  | .list l => cntL l + 1
  | .dict l => cntD l + 1
  | .record _ _ l => cntD l + 1
  | _ => 1
def cntL : List V → Nat
  | [] => 0
  | x :: r => cntV x + cntL r
def cntD : List (ByteArray × V) → Nat
  | [] => 0
  | (_, x) :: r => cntV x + cntD r
end
/- What can be printed at so great a depth. -/
mutual
def Fit : V → Nat → Prop
  | .nil, _ => True
  | .bool _, _ => True
  | .int n, _ => i64B n
  | .flt b, _ => b < 18446744073709551616
  | .text s, _ => s.size ≤ 65536
  | .bytes l, _ => l.length ≤ 65536
  | .ref n, _ => 0 ≤ n ∧ n ≤ 18446744073709551615
  | .list l, d => d < 64 ∧ l.length ≤ 4096 ∧ FitL l (d + 1)
  | .dict l, d => d < 64 ∧ l.length ≤ 4096 ∧ FitD l (d + 1)
  | .record c v l, d => d < 64 ∧ c.size ≤ 32 ∧ 1 ≤ v ∧ v ≤ 1000 ∧ l.length ≤ 4096 ∧ FitD l (d + 1)
  | .nothing, _ => False
  | .alien, _ => False
def FitL : List V → Nat → Prop
  | [], _ => True
  | x :: r, d => Fit x d ∧ FitL r d
def FitD : List (ByteArray × V) → Nat → Prop
  | [], _ => True
  | (n, x) :: r, d => n.size ≤ 32 ∧ Fit x d ∧ FitD r d
end
theorem FitL.at_ {l : List V} {d : Nat} (h : FitL l d) : ∀ x ∈ l, Fit x d := by
  induction l with
  | nil => intro x hx; cases hx
  | cons y r ih =>
    intro x hx
    rcases List.mem_cons.1 hx with rfl | hx
    · exact h.1
    · exact ih h.2 x hx
theorem FitD.at_ {l : List (ByteArray × V)} {d : Nat} (h : FitD l d) : ∀ p ∈ l, p.1.size ≤ 32 ∧ Fit p.2 d := by
  induction l with
  | nil => intro x hx; cases hx
  | cons y r ih =>
    obtain ⟨n, y⟩ := y
    intro x hx
    rcases List.mem_cons.1 hx with rfl | hx
    · exact ⟨h.1, h.2.1⟩
    · exact ih h.2.2 x hx
theorem sepT_len (ln : Bool) (i d : Nat) (hd : d < 64) : (sepT ln i d).length ≤ 132 := by
  unfold sepT
  split
  · split <;> simp <;> omega
  · split <;> simp
theorem closeT_len (ln : Bool) (n d : Nat) (hd : d < 64) : (closeT ln n d).length ≤ 132 := by
  unfold closeT
  split <;> simp <;> omega
theorem quoteB_len (l : List UInt8) : (quoteB l).length ≤ 4 * l.length + 2 := by
  unfold quoteB
  have := flat_len l
  simp only [List.length_cons, List.length_append, List.length_nil]; omega
theorem hexB_len (l : List UInt8) : (hexB l).length = 2 * l.length + 1 := by
  unfold hexB
  induction l with
  | nil => rfl
  | cons c r ih => simp at ih ⊢; omega
theorem fracD_len (k F : Nat) : (fracD k F).length ≤ k := by
  induction k generalizing F with
  | zero => simp [fracD]
  | succ k ih =>
    rw [fracD]
    split
    · simp
    · have := ih (F % 16 ^ k); simp; omega
theorem normF_low : ∀ (k m : Nat) (e : Int), e - k ≤ (normF k m e).2 ∧ (normF k m e).2 ≤ e := by
  intro k
  induction k with
  | zero => intro m e; simp [normF]
  | succ k ih =>
    intro m e
    rw [normF]
    split
    · have := ih (2 * m) (e - 1); omega
    · simp only; omega
theorem expT_len (e : Int) (h0 : -10000 ≤ e) (h1 : e ≤ 10000) : (expT e).length ≤ 30 := by
  unfold expT
  have := Lib.nDigits_le20 e.natAbs (by omega)
  simp only [List.length_cons, List.length_append, Lib.decDigits_length]
  split <;> simp <;> omega
theorem fracT_len (F : Nat) : (fracT F).length ≤ 14 := by
  unfold fracT
  have := fracD_len 13 F
  split <;> simp <;> omega
theorem body_gen (F : Nat) (x : Int) (h0 : -10000 ≤ x) (h1 : x ≤ 10000) : (49 :: (fracT F ++ 112 :: expT x)).length ≤ 100 := by
  have h2 := expT_len x h0 h1
  have h3 := fracT_len F
  simp only [List.length_cons, List.length_append]
  omega
theorem bodyT_len (e m : Nat) (he : e < 2048) : (bodyT e m).length ≤ 100 := by
  unfold bodyT
  by_cases hz : e = 0 ∧ m = 0
  · rw [if_pos hz]; decide
  · rw [if_neg hz]
    by_cases h0 : e = 0
    · have h1 := normF_low 52 m 1
      simp only [if_pos h0]
      exact body_gen _ _ (by omega) (by omega)
    · simp only [if_neg h0]
      exact body_gen _ _ (by omega) (by omega)
theorem fltT_len (b : Nat) : (fltT b).length ≤ 1000 := by
  unfold fltT
  have h1 := hexN_length 16 b
  have h2 := bodyT_len (b / 4503599627370496 % 2048) (b % 4503599627370496) (Nat.mod_lt _ (by decide))
  split
  · split
    · simp
    · simp only [List.length_cons, List.length_append, List.length_nil]; omega
  · split <;> simp only [List.length_cons, List.length_append, List.length_nil] <;> omega
theorem size_list (c : ByteArray) : c.data.toList.length = c.size := Array.length_toList
theorem putL_len (ln : Bool) (l : List V) (d : Nat) (hd : d < 64) (ih : ∀ x ∈ l, (putV ln x (d + 1)).length ≤ 1048576 * cntV x) : ∀ i, (putL ln l i d).length ≤ 1048576 * cntL l + 200 * l.length := by
  induction l with
  | nil => intro i; simp [putL]
  | cons x r ihr =>
    intro i
    have h1 := ih x (by simp)
    have h2 := ihr (fun y hy => ih y (by simp [hy])) (i + 1)
    have h3 := sepT_len ln i d hd
    simp only [putL, cntL, List.length_append, List.length_cons]
    omega
theorem putD_len (ln : Bool) (l : List (ByteArray × V)) (d : Nat) (hd : d < 64) (hn : ∀ p ∈ l, p.1.size ≤ 32) (ih : ∀ p ∈ l, (putV ln p.2 (d + 1)).length ≤ 1048576 * cntV p.2) : ∀ i, (putD ln l i d).length ≤ 1048576 * cntD l + 200 * l.length := by
  induction l with
  | nil => intro i; simp [putD]
  | cons x r ihr =>
    obtain ⟨n, x⟩ := x
    intro i
    have h1 := ih (n, x) (by simp)
    have h0 := hn (n, x) (by simp)
    have h2 := ihr (fun y hy => hn y (by simp [hy])) (fun y hy => ih y (by simp [hy])) (i + 1)
    have h3 := sepT_len ln i d hd
    simp only [putD, cntD, List.length_append, List.length_cons, size_list, List.length_nil] at *
    omega
theorem put_len (ln : Bool) (x : V) : ∀ d, Fit x d → (putV ln x d).length ≤ 1048576 * cntV x := by
  induction x using V.ind with
  | h0 => intro d _; simp [putV, cntV]
  | h1 b => intro d _; cases b <;> simp [putV, cntV, truB, falB]
  | h2 n => intro d h; have := Lib.itoa_length_le n h.1 h.2; simp only [putV, cntV]; omega
  | h3 b => intro d h; have := fltT_len b; simp only [putV, cntV]; omega
  | h4 s => intro d h; have := quoteB_len s.data.toList; simp only [putV, cntV, Fit, size_list] at *; omega
  | h5 l => intro d h; have := hexB_len l; simp only [putV, cntV, Fit] at *; omega
  | h6 n =>
    intro d h
    obtain ⟨h1, h2⟩ := h
    have h3 := Lib.nDigits_le20 n.toNat (by omega)
    simp only [putV, cntV, List.length_cons, Lib.decDigits_length]; omega
  | h7 l ih =>
    intro d h
    obtain ⟨hd, hl, hf⟩ := h
    have h1 := putL_len ln l d hd (fun x hx => ih x hx _ (hf.at_ x hx)) 0
    have h2 := closeT_len ln l.length d hd
    simp only [putV, cntV, List.length_cons, List.length_append, List.length_nil]
    omega
  | h8 l ih =>
    intro d h
    obtain ⟨hd, hl, hf⟩ := h
    have h1 := putD_len ln l d hd (fun x hx => (hf.at_ x hx).1) (fun x hx => ih x hx _ (hf.at_ x hx).2) 0
    have h2 := closeT_len ln l.length d hd
    simp only [putV, cntV, List.length_cons, List.length_append, List.length_nil]
    omega
  | h9 c v l ih =>
    intro d h
    obtain ⟨hd, hc, hv, hv2, hl, hf⟩ := h
    have h1 := putD_len ln l d hd (fun x hx => (hf.at_ x hx).1) (fun x hx => ih x hx _ (hf.at_ x hx).2) 0
    have h2 := closeT_len ln l.length d hd
    have h3 := Lib.itoa_length_le v (by omega) (by omega)
    simp only [putV, cntV, List.length_cons, List.length_append, List.length_nil, size_list]
    omega
  | h10 => intro d h; exact absurd h id
  | h11 => intro d h; exact absurd h id
/- What passes the check fits. -/
mutual
def FltV : V → Prop
  | .flt b => b < 18446744073709551616
  | .list l => FltL l
  | .dict l => FltD l
  | .record _ _ l => FltD l
  | _ => True
def FltL : List V → Prop
  | [] => True
  | x :: r => FltV x ∧ FltL r
def FltD : List (ByteArray × V) → Prop
  | [] => True
  | (_, x) :: r => FltV x ∧ FltD r
end
theorem fields_fine {l : List (ByteArray × V)} (h : fieldsV l = 0) : l.length ≤ 4096 ∧ ∀ p ∈ l, p.1.size ≤ 32 := by
  unfold fieldsV at h
  split at h
  · cases h
  · rename_i hl
    split at h
    · rename_i hf
      refine ⟨by omega, fun p hp => ?_⟩
      obtain ⟨i, hi⟩ := List.mem_iff_getElem?.1 hp
      have hlt : i < l.length := (List.getElem?_eq_some_iff.1 hi).1
      have := (hf i p hlt hi).1
      by_cases hs : p.1.size ≤ 32
      · exact hs
      · rw [nameB_false_of_len (.inr (by rw [size_list]; omega))] at this; cases this
    · cases h
theorem own_near {x : V} {n d : Nat} (h : ownV x n d = 0) : n < 16384 ∧ d ≤ 64 := by
  by_cases hq : 16384 ≤ n ∨ 64 < d
  · exfalso
    unfold ownV at h
    rw [if_pos hq] at h
    split at h <;> cases h
  · omega
/- The part of a check that the printer leans on. -/
def FitC (x : V) : Prop := ∀ (w : World) (S : Nat → Prop) (v : Value) (d : Nat) (s : Cnt), RdS w S x v → FltV x → s.n ≤ 16384 → (partV x (d + 1) s).1 = true → Fit x d ∧ (partV x (d + 1) s).2.n = s.n + cntV x ∧ (partV x (d + 1) s).2.n ≤ 16384
theorem fitL_of (l : List V) (ih : ∀ x ∈ l, FitC x) (w : World) (S : Nat → Prop) (d : Nat) (hr : ∀ x ∈ l, ∃ v, RdS w S x v) (hf : FltL l) : ∀ s : Cnt, s.n ≤ 16384 → (partL l (d + 1) s).1 = true → FitL l d ∧ (partL l (d + 1) s).2.n = s.n + cntL l ∧ (partL l (d + 1) s).2.n ≤ 16384 := by
  induction l with
  | nil => intro s hs _; exact ⟨trivial, by simp [partL, cntL], by simpa [partL] using hs⟩
  | cons x r ihr =>
    intro s hs h
    have h0 := h
    rw [partL] at h0
    obtain ⟨h1, h2⟩ := then_fine h0
    obtain ⟨v, hv⟩ := hr x (by simp)
    obtain ⟨a1, a2, a3⟩ := ih x (by simp) w S v d s hv hf.1 hs h1
    obtain ⟨b1, b2, b3⟩ := ihr (fun y hy => ih y (by simp [hy])) (fun y hy => hr y (by simp [hy])) hf.2 _ a3 h2
    rw [partL, thenV_yes h1]
    exact ⟨⟨a1, b1⟩, by rw [b2, a2, cntL]; omega, b3⟩
theorem fitD_of (l : List (ByteArray × V)) (ih : ∀ p ∈ l, FitC p.2) (w : World) (S : Nat → Prop) (d : Nat) (hn : ∀ p ∈ l, p.1.size ≤ 32) (hr : ∀ p ∈ l, ∃ v, RdS w S p.2 v) (hf : FltD l) : ∀ s : Cnt, s.n ≤ 16384 → (partD l (d + 1) s).1 = true → FitD l d ∧ (partD l (d + 1) s).2.n = s.n + cntD l ∧ (partD l (d + 1) s).2.n ≤ 16384 := by
  induction l with
  | nil => intro s hs _; exact ⟨trivial, by simp [partD, cntD], by simpa [partD] using hs⟩
  | cons x r ihr =>
    obtain ⟨n, x⟩ := x
    intro s hs h
    have h0 := h
    rw [partD] at h0
    obtain ⟨h1, h2⟩ := then_fine h0
    obtain ⟨v, hv⟩ := hr (n, x) (by simp)
    obtain ⟨a1, a2, a3⟩ := ih (n, x) (by simp) w S v d s hv hf.1 hs h1
    obtain ⟨b1, b2, b3⟩ := ihr (fun y hy => ih y (by simp [hy])) (fun y hy => hn y (by simp [hy])) (fun y hy => hr y (by simp [hy])) hf.2 _ a3 h2
    simp only at a2
    rw [partD, thenV_yes h1]
    exact ⟨⟨hn (n, x) (by simp), a1, b1⟩, by rw [b2, a2, cntD]; omega, b3⟩
theorem RdL.ex {w : World} {S : Nat → Prop} {b off : Nat} {l : List V} (h : RdL w S b off l) : ∀ x ∈ l, ∃ v, RdS w S x v := by
  intro x hx
  obtain ⟨i, hi⟩ := List.mem_iff_getElem?.1 hx
  obtain ⟨v, -, hv⟩ := RdL.iff.1 h i x hi
  exact ⟨v, hv⟩
theorem RdD.ex {w : World} {S : Nat → Prop} {b off : Nat} {l : List (ByteArray × V)} (h : RdD w S b off l) : ∀ p ∈ l, ∃ v, RdS w S p.2 v := by
  intro x hx
  obtain ⟨i, hi⟩ := List.mem_iff_getElem?.1 hx
  obtain ⟨-, -, v, -, hv⟩ := RdD.iff.1 h i x hi
  exact ⟨v, hv⟩
theorem fit_of (x : V) : FitC x := by
  induction x using V.ind with
  | h0 => intro w S v d s _ _ hs h; have hs2 := step_fine h; have hne := own_near hs2.1; rw [partV, stepV_yes hs2.1]; exact ⟨trivial, rfl, by show s.n + 1 ≤ _; omega⟩
  | h1 => intro w S v d s _ _ hs h; have hs2 := step_fine h; have hne := own_near hs2.1; rw [partV, stepV_yes hs2.1]; exact ⟨trivial, rfl, by show s.n + 1 ≤ _; omega⟩
  | h2 => intro w S v d s hv _ hs h; have hs2 := step_fine h; have hne := own_near hs2.1; rw [partV, stepV_yes hs2.1]; exact ⟨hv.2, rfl, by show s.n + 1 ≤ _; omega⟩
  | h3 => intro w S v d s hv hf hs h; have hs2 := step_fine h; have hne := own_near hs2.1; rw [partV, stepV_yes hs2.1]; exact ⟨hf, rfl, by show s.n + 1 ≤ _; omega⟩
  | h4 t => intro w S v d s hv hf hs h; have hs2 := step_fine h; have hne := own_near hs2.1; rw [partV, stepV_yes hs2.1]; exact ⟨by have := hs2.1; unfold ownV at this; rw [if_neg (by omega)] at this; simp only at this; split at this; cases this; show t.size ≤ _; omega, rfl, by show s.n + 1 ≤ _; omega⟩
  | h5 t => intro w S v d s hv hf hs h; have hs2 := step_fine h; have hne := own_near hs2.1; rw [partV, stepV_yes hs2.1]; exact ⟨by have := hs2.1; unfold ownV at this; rw [if_neg (by omega)] at this; simp only at this; split at this; cases this; show t.length ≤ _; omega, rfl, by show s.n + 1 ≤ _; omega⟩
  | h6 => intro w S v d s hv _ hs h; have hs2 := step_fine h; have hne := own_near hs2.1; rw [partV, stepV_yes hs2.1]; exact ⟨hv.2, rfl, by show s.n + 1 ≤ _; omega⟩
  | h7 l ih =>
    intro w S v d s hv hf hs h
    have hs2 := step_fine h
    have hne := own_near hs2.1
    have hl : l.length ≤ 4096 := by have := hs2.1; unfold ownV at this; rw [if_neg (by omega)] at this; simp only at this; split at this; cases this; omega
    obtain ⟨A, c, -, -, -, hr⟩ := hv
    have hex : ∀ x ∈ l, ∃ v, RdS w S x v := by
      rcases hr with rfl | ⟨b, off, -, -, hr⟩
      · intro x hx; cases hx
      · exact hr.ex
    obtain ⟨a1, a2, a3⟩ := fitL_of l ih w S (d + 1) hex hf ⟨s.n + 1, max s.deep (d + 1), 0⟩ (by show s.n + 1 ≤ _; omega) hs2.2
    rw [partV, stepV_yes hs2.1]
    exact ⟨⟨by omega, hl, a1⟩, by rw [a2, cntV]; show s.n + 1 + _ = _; omega, a3⟩
  | h8 l ih =>
    intro w S v d s hv hf hs h
    have hs2 := step_fine h
    have hne := own_near hs2.1
    have hfl := fields_fine (l := l) (by have := hs2.1; unfold ownV at this; rw [if_neg (by omega)] at this; exact this)
    obtain ⟨A, c, -, -, hr⟩ := hv
    have hex : ∀ p ∈ l, ∃ v, RdS w S p.2 v := by
      rcases hr with rfl | ⟨b, off, -, -, hr⟩
      · intro x hx; cases hx
      · exact hr.ex
    obtain ⟨a1, a2, a3⟩ := fitD_of l ih w S (d + 1) hfl.2 hex hf ⟨s.n + 1, max s.deep (d + 1), 0⟩ (by show s.n + 1 ≤ _; omega) hs2.2
    rw [partV, stepV_yes hs2.1]
    exact ⟨⟨by omega, hfl.1, a1⟩, by rw [a2, cntV]; show s.n + 1 + _ = _; omega, a3⟩
  | h9 c v0 l ih =>
    intro w S v d s hv hf hs h
    have hs2 := step_fine h
    have hne := own_near hs2.1
    have ho := hs2.1
    unfold ownV at ho
    rw [if_neg (by omega)] at ho
    simp only at ho
    split at ho
    · cases ho
    rename_i hnm
    split at ho
    · cases ho
    rename_i hvv
    have hfl := fields_fine ho
    have hc : c.size ≤ 32 := by
      by_cases hs : c.size ≤ 32
      · exact hs
      · exact absurd (nameB_false_of_len (.inr (by rw [size_list]; omega))) hnm
    obtain ⟨b, -, -, -, -, -, -, -, A, c', -, -, hr⟩ := hv
    have hex : ∀ p ∈ l, ∃ v, RdS w S p.2 v := by
      rcases hr with rfl | ⟨b, off, -, -, hr⟩
      · intro x hx; cases hx
      · exact hr.ex
    obtain ⟨a1, a2, a3⟩ := fitD_of l ih w S (d + 1) hfl.2 hex hf ⟨s.n + 1, max s.deep (d + 1), 0⟩ (by show s.n + 1 ≤ _; omega) hs2.2
    rw [partV, stepV_yes hs2.1]
    exact ⟨⟨by omega, hc, by omega, by omega, hfl.1, a1⟩, by rw [a2, cntV]; show s.n + 1 + _ = _; omega, a3⟩
  | h10 => intro w S v d s _ _ hs h; exact absurd rfl (own_kind (step_fine h).1).1
  | h11 => intro w S v d s _ _ hs h; exact absurd rfl (own_kind (step_fine h).1).2
end Go.Proofs.YtobpkelblpdajaaGreatDoor
