/- Walk: a finite float to the base 16: internal/strconv.ftoa64, FormatFloat; strconv.FormatFloat. -/
import Derived.Test.YtobpkelblpdajaaGreatDoorTX18
import Derived.Lib.QuoteBits
import Derived.Laws.Rows
set_option linter.unusedVariables false
set_option linter.unusedSimpArgs false
set_option linter.unusedSectionVars false
namespace Go.Proofs.YtobpkelblpdajaaGreatDoor
open Go Go.RowKit
def fxT (s : Bool) (m0 : Nat) (e0 : Int) : List UInt8 := (if s = true then [45] else []) ++ (if m0 = 0 then [48, 120, 48, 112, 43, 48, 48] else [48, 120, 49] ++ (fracT ((normF 52 m0 e0).1 - 4503599627370496) ++ 112 :: expT (normF 52 m0 e0).2))
theorem fmtx_any (s : Bool) (B : Nat) (v : Value) (l : List UInt8) (m0 : Nat) (e0 : Int) (w : World) (hm : m0 < 9007199254740992) (he0 : -2000 ≤ e0) (he1 : e0 ≤ 2000) (hown : OwnB w B v l) (hB : B ≤ w.heap.size) (hl : l.length ≤ 100) :
    Calls Tryz.prog 294 #[v, .int .i64 (-1), .int .u8 120, .bool s, .int .u64 m0, .int .i64 e0, .int .i64 52] w (AppPost B (l ++ fxT s m0 e0) w) := by
  unfold fxT
  by_cases h0 : m0 = 0
  · subst h0
    cases s
    · have := fmtx_zpos B v l e0 w hown hB hl
      simpa using this
    · have := fmtx_zneg B v l e0 w hown hB hl
      simpa using this
  · cases s
    · have := fmtx_pos B v l m0 e0 w hm he0 he1 hown hB hl h0
      simpa [if_neg h0] using this
    · have := fmtx_neg B v l m0 e0 w hm he0 he1 hown hB hl h0
      simpa [if_neg h0] using this
theorem normF_add (c : Int) : ∀ (k m : Nat) (e : Int), normF k m (e + c) = ((normF k m e).1, (normF k m e).2 + c) := by
  intro k
  induction k with
  | zero => intro m e; rfl
  | succ k ih =>
    intro m e
    simp only [normF]
    by_cases h : m < 4503599627370496
    · rw [if_pos h, if_pos h, ← ih, show e + c - 1 = e - 1 + c by omega]
    · rw [if_neg h, if_neg h]
theorem flt_fin {b : Nat} (hn : b / 4503599627370496 % 2048 ≠ 2047) {s : Bool} (hs : s = decide (9223372036854775808 ≤ b)) :
    fltT b = if b / 4503599627370496 % 2048 = 0 then fxT s (b % 4503599627370496) (-1022) else fxT s (b % 4503599627370496 + 4503599627370496) ((b / 4503599627370496 % 2048 : Nat) - 1023) := by
  subst hs
  unfold fltT
  rw [if_neg hn]
  generalize b / 4503599627370496 % 2048 = e
  generalize b % 4503599627370496 = m
  unfold bodyT fxT
  simp only [decide_eq_true_eq]
  generalize (if 9223372036854775808 ≤ b then [45] else ([] : List UInt8)) = Z
  have e1 : ((1 : Int) + (-1023)) = -1022 := rfl
  by_cases he : e = 0
  · rw [if_pos he]
    by_cases hm : m = 0
    · rw [if_pos ⟨he, hm⟩, if_pos hm]; simp [he]
    · rw [if_neg (by rintro ⟨-, h⟩; exact hm h), if_neg hm, ← e1, normF_add]
      simp [if_pos he, Int.sub_eq_add_neg]
  · rw [if_neg he, if_neg (by rintro ⟨h, -⟩; exact he h), if_neg (by omega)]
    have hnf : normF 52 (m + 4503599627370496) ((e : Int) - 1023) = (m + 4503599627370496, (e : Int) - 1023) := by
      rw [normF, if_neg (by omega)]
    rw [hnf]
    simp [if_neg he]
theorem and_i64_nat (a b : Nat) (ha : a < 9223372036854775808) (hb : b < 9223372036854775808) : bits .and .i64 (a : Int) (b : Int) = ((a &&& b : Nat) : Int) := by
  show IntKind.i64.wrap ((BitVec.ofInt 64 (a : Int) &&& BitVec.ofInt 64 (b : Int)).toNat : Int) = _
  rw [BitVec.toNat_and, ofInt_u64 a (by omega), ofInt_u64 b (by omega)]
  exact Lib.wrap_i64_small _ (Nat.lt_of_le_of_lt Nat.and_le_left ha)
/- What ftoa64 reckons of the bits. -/
theorem bits_parts {b : Nat} (hb : b < 18446744073709551616) : ∃ (e m : Nat), e = b / 4503599627370496 % 2048 ∧ m = b % 4503599627370496 ∧ e < 2048 ∧ m < 4503599627370496 ∧
    bits .and .i64 ((b : Int) / 4503599627370496) 2047 = (e : Int) ∧ bits .and .u64 (b : Int) 4503599627370495 = (m : Int) ∧ bits .or .u64 (m : Int) 4503599627370496 = ((m + 4503599627370496 : Nat) : Int) := by
  refine ⟨_, _, rfl, rfl, Nat.mod_lt _ (by decide), Nat.mod_lt _ (by decide), ?_, ?_, ?_⟩
  · rw [show ((b : Int) / 4503599627370496) = ((b / 4503599627370496 : Nat) : Int) from rfl, show (2047 : Int) = ((2 ^ 11 - 1 : Nat) : Int) from rfl, and_i64_nat _ _ (by omega) (by decide), Nat.and_two_pow_sub_one_eq_mod]
  · rw [show (4503599627370495 : Int) = ((2 ^ 52 - 1 : Nat) : Int) by decide, bits_and_u64_nat _ _ hb (by decide), Nat.and_two_pow_sub_one_eq_mod]
  · rw [show (4503599627370496 : Int) = ((2 ^ 52 : Nat) : Int) by decide, bits_or_u64_nat _ _ (by omega) (by decide), Nat.or_comm, show (2 ^ 52 : Nat) = 2 ^ 52 * 1 by decide, ← Nat.two_pow_add_eq_or_of_lt (i := 52) (Nat.mod_lt _ (by decide))]
    congr 1
    omega
theorem run_f64bits2 (b : Nat) (w : World) : (callFunc 292 #[.float .f64 b]).run Tryz.prog w = .ok (.value (.int .u64 b)) w := by
  rw [run_callFunc_extern Tryz.func292 (by kernel_rfl) (by kernel_rfl) (by kernel_rfl) (e := Extern.MathFloatBits.float64bits) (by kernel_rfl)]; rfl
set_option maxRecDepth 100000 in
set_option maxHeartbeats 4000000 in
theorem ftoa_any (B : Nat) (v : Value) (l : List UInt8) (b : Nat) (w : World) (hb : b < 18446744073709551616) (hn : b / 4503599627370496 % 2048 ≠ 2047) (hown : OwnB w B v l) (hB : B ≤ w.heap.size) (hl : l.length ≤ 100) :
    Calls Tryz.prog 255 #[v, .float .f64 b, .int .u8 120, .int .i64 (-1)] w (AppPost B (l ++ fltT b) w) := by
  obtain ⟨e, m, he, hm, he2, hm2, k1, k2, k3⟩ := bits_parts hb
  have k0 : ∀ W : World, (callFunc 292 #[.float .f64 b]).run Tryz.prog W = .ok (.value (.int .u64 b)) W := fun W => run_f64bits2 b W
  obtain ⟨s, hs⟩ : ∃ s, s = decide (9223372036854775808 ≤ b) := ⟨_, rfl⟩
  have hT := flt_fin hn hs
  rw [← he, ← hm] at hT
  rw [← he] at hn
  have hqn : ((e : Int) == 2047) = false := by rw [beq_eq_false_iff_ne]; omega
  have hqs : ((b : Int) / 9223372036854775808 != 0) = s := by
    rw [hs]
    by_cases h : 9223372036854775808 ≤ b
    · rw [decide_eq_true h, bne_iff_ne]; omega
    · rw [decide_eq_false h, bne_eq_false_iff_eq]; omega
  have kw : IntKind.i64.wrap ((b : Int) / 4503599627370496) = (b : Int) / 4503599627370496 := Lib.wrap_i64_small (b / 4503599627370496) (by omega)
  have k5 : IntKind.i64.wrap 2048 = 2048 := by decide
  have k6 : IntKind.i64.wrap 2047 = 2047 := by decide
  have k7 : (2048 : Int) - 1 = 2047 := rfl
  have k8 : IntKind.u64.wrap 4503599627370496 = 4503599627370496 := by decide
  have k9 : IntKind.u64.wrap 4503599627370495 = 4503599627370495 := by decide
  have k10 : (4503599627370496 : Int) - 1 = 4503599627370495 := by decide
  clear hs
  obtain ⟨A1, c1, rfl⟩ := ownsRow_form hown
  by_cases h0 : e = 0
  · subst h0
    rw [if_pos rfl] at hT
    have HT := Lib.hid hT
    have HF := Lib.hid (fun (W : World) (h : OwnB W B (.slice A1 l.length c1) l) (hB : B ≤ W.heap.size) => fmtx_any s B _ l m (-1022) W (by omega) (by omega) (by omega) h hB hl)
    clear hT he hm
    go_enter Tryz.func255, Tryz.ntmps255
    go_wp2_with fail
    refine wp_region_heldS (fun _ => True) 9 (by kernel_rfl) (by kernel_rfl) (fun _ _ _ _ _ h => h) ?_ ?_
    · ((trivial))
    simp only [List.take_succ_cons, List.take_zero]
    repeat (refine HdS.step (fun K hK => ?_); go_simp; first | (refine hK _ ?_; clear hK K) | (apply Exists.intro; refine ⟨fun W hW => ?_, hK _ ?_⟩; (first | (intros; rfl) | ((go_simp; rfl))); clear hK K))
    refine HdS.nil ?_
    simp only [List.drop_succ_cons, List.drop_zero]
    refine SeqS.nil ?_
    go_wp2_with fail
    refine (HF.out _ (World.ownsRow.drew hown) hB).mono ?_
    rintro x w1 ⟨v1, rfl, ho, hbw⟩
    go_wp2
    go_ret
    exact ⟨_, rfl, by rw [HT.out]; exact ho, (Below.refl _ _).drew.trans hbw⟩
  · rw [if_neg h0] at hT
    have HT := Lib.hid hT
    have hq0 : ((e : Int) == 0) = false := by rw [beq_eq_false_iff_ne]; omega
    have HF := Lib.hid (fun (W : World) (h : OwnB W B (.slice A1 l.length c1) l) (hB : B ≤ W.heap.size) => fmtx_any s B _ l (m + 4503599627370496) ((e : Int) - 1023) W (by omega) (by omega) (by omega) h hB hl)
    clear hT he hm h0
    go_enter Tryz.func255, Tryz.ntmps255
    go_wp2_with fail
    refine wp_region_heldS (fun _ => True) 9 (by kernel_rfl) (by kernel_rfl) (fun _ _ _ _ _ h => h) ?_ ?_
    · ((trivial))
    simp only [List.take_succ_cons, List.take_zero]
    repeat (refine HdS.step (fun K hK => ?_); go_simp; first | (refine hK _ ?_; clear hK K) | (apply Exists.intro; refine ⟨fun W hW => ?_, hK _ ?_⟩; (first | (intros; rfl) | ((go_simp; rfl))); clear hK K))
    refine HdS.nil ?_
    simp only [List.drop_succ_cons, List.drop_zero]
    refine SeqS.nil ?_
    go_wp2_with fail
    refine (HF.out _ (World.ownsRow.drew hown) hB).mono ?_
    rintro x w1 ⟨v1, rfl, ho, hbw⟩
    go_wp2
    go_ret
    exact ⟨_, rfl, by rw [HT.out]; exact ho, (Below.refl _ _).drew.trans hbw⟩
end Go.Proofs.YtobpkelblpdajaaGreatDoor
/- Walk: sixteen digits to the base 16: math/bits.TrailingZeros at 16, internal/strconv.formatBits, FormatUint; strconv.FormatUint. -/
namespace Go.Proofs.YtobpkelblpdajaaGreatDoor
open Go Go.RowKit
def DeB (w : World) : Prop := 10 < w.heap.size ∧ w.cell? ⟨10, 15, none⟩ = some (.int .u8 4)
theorem DeB.below {w w' : World} {B : Nat} (h : DeB w) (hb : Below B w w') (hB : 10 < B) : DeB w' := ⟨Nat.lt_of_lt_of_le h.1 hb.size, (hb.cell (p := ⟨10, 15, none⟩) hB).trans h.2⟩
set_option maxRecDepth 100000 in
set_option maxHeartbeats 1000000 in
theorem tz16 (w : World) (h : DeB w) : Calls Tryz.prog 322 #[.int .u64 16] w (fun e w' => e = .returned (.int .i64 4) ∧ w = w') := by
  have hc := h.2
  have k0 : IntKind.u64.wrap (bits BinOp.and IntKind.u64 16 (IntKind.u64.wrap (-16)) * 285870213051353865) / 288230376151711744 = 15 := by decide +kernel
  clear h
  go_enter Tryz.func322, Tryz.ntmps322
  go_wp2_with (simp only [k0])
  go_ret
  exact ⟨rfl, rfl⟩
set_option maxRecDepth 100000 in
set_option maxHeartbeats 1000000 in
theorem tz16u (w : World) (h : DeB w) : Calls Tryz.prog 289 #[.int .u64 16] w (fun e w' => e = .returned (.int .i64 4) ∧ w = w') := by
  have HT := Lib.hid (tz16 w h)
  have k1 : IntKind.u64.wrap 16 = 16 := by decide
  clear h
  go_enter Tryz.func289, Tryz.ntmps289
  go_wp2_with fail
  refine HT.out.mono ?_
  rintro e w1 ⟨rfl, rfl⟩
  go_wp2
  go_ret
  exact ⟨rfl, rfl⟩
set_option maxRecDepth 100000 in
set_option maxHeartbeats 1000000 in
theorem pow2_16 (w : World) : Calls Tryz.prog 288 #[.int .i64 16] w (fun e w' => e = .returned (.bool true) ∧ w = w') := by
  have k0 : (bits BinOp.and IntKind.i64 16 15 == 0) = true := by decide +kernel
  have k1 : IntKind.i64.wrap 15 = 15 := by decide
  go_enter Tryz.func288, Tryz.ntmps288
  go_wp2
  go_ret
  exact ⟨rfl, rfl⟩
theorem hex36 (w : World) {d : Int} {n : Nat} (hd : d = (n : Int)) (h : n < 16) : (Instr.index 9 (.string ⟨#[48, 49, 50, 51, 52, 53, 54, 55, 56, 57, 97, 98, 99, 100, 101, 102, 103, 104, 105, 106, 107, 108, 109, 110, 111, 112, 113, 114, 115, 116, 117, 118, 119, 120, 121, 122]⟩) (.int .u64 d)).run Tryz.prog w = .ok (.int .u8 (hexc n).toNat) w := by
  subst hd
  have h2 : n = 0 ∨ n = 1 ∨ n = 2 ∨ n = 3 ∨ n = 4 ∨ n = 5 ∨ n = 6 ∨ n = 7 ∨ n = 8 ∨ n = 9 ∨ n = 10 ∨ n = 11 ∨ n = 12 ∨ n = 13 ∨ n = 14 ∨ n = 15 := by omega
  rcases h2 with rfl | rfl | rfl | rfl | rfl | rfl | rfl | rfl | rfl | rfl | rfl | rfl | rfl | rfl | rfl | rfl <;> (simp [go_sem, hexc]; rfl)
/- The digits in block g from place i on. -/
def HexAt (w : World) (g i b : Nat) : Prop := ∃ cs : Array Value, w.heap[g]? = some (.cells cs 377 (0, 0)) ∧ cs.size = 65 ∧ ∀ t, t + i < 65 → cs[64 - t]? = some (.int .u8 (hexc (b / 16 ^ t % 16)).toNat)
theorem HexAt.next {w : World} {g i b : Nat} {x : Int} (h : HexAt w g (i + 1) b) (hi : i < 65) (hx : x = (hexc (b / 16 ^ (64 - i) % 16)).toNat) : HexAt (w.setCell ⟨g, i, none⟩ (.int .u8 x)) g i b := by
  obtain ⟨cs, h1, h2, h3⟩ := h
  refine ⟨_, heap_setCell_same w g i cs _ _ h1, by simpa using h2, fun t ht => ?_⟩
  rw [Array.getElem?_setIfInBounds]
  by_cases e : i = 64 - t
  · rw [if_pos e, if_pos (by rw [h2]; exact hi), hx, show 64 - i = t by omega]
  · rw [if_neg e]; exact h3 t (by omega)
theorem HexAt.frozen {w : World} {g i b : Nat} (h : HexAt w g i b) (j : Nat) : w.frozen? ⟨g, j, none⟩ = false := by
  obtain ⟨cs, h1, _⟩ := h
  exact frozen_of_row w g j cs _ h1
theorem HexAt.here {w : World} {g i b : Nat} (h : HexAt w g i b) (j : Nat) (hj : j < 65) : ∃ v, w.cell? ⟨g, j, none⟩ = some v := by
  obtain ⟨cs, h1, h2, _⟩ := h
  exact ⟨cs[j]'(by omega), by simp [World.cell?, h1, Array.getElem?_eq_getElem (show j < cs.size by omega)]⟩
theorem hexN_at (b : Nat) : ∀ (k j : Nat) (hj : j < (hexN k b).length), (hexN k b)[j] = hexc (b / 16 ^ (k - 1 - j) % 16) := by
  intro k
  induction k with
  | zero => intro j hj; simp [hexN] at hj
  | succ k ih =>
    intro j hj
    cases j with
    | zero => simp [hexN]
    | succ j =>
      simp only [hexN, List.getElem_cons_succ]
      rw [ih j (by simpa [hexN] using hj), show k + 1 - 1 - (j + 1) = k - 1 - j by omega]
theorem HexAt.conv {w : World} {g b cap : Nat} (h : HexAt w g 49 b) : (convert 23 9 (.slice (some ⟨g, 49, none⟩) 16 cap)).run Tryz.prog w = .ok (.string ⟨(hexN 16 b).toArray⟩) w := by
  obtain ⟨cs, h1, h2, h3⟩ := h
  have hl := hexN_length 16 b
  have := run_convert_bytes_back (P := Tryz.prog) w 23 9 5 ⟨g, 49, none⟩ cap (hexN 16 b) Tryz.underlying23 Tryz.underlying5 Tryz.underlying9 (fun j hj => by
    rw [hexN_at]
    rw [hl] at hj
    have := h3 (16 - 1 - j) (by omega)
    rw [show 64 - (16 - 1 - j) = 49 + j by omega] at this
    rw [Lib.add_plain]
    simpa [World.cell?, h1] using this)
  rw [hl] at this
  exact this
theorem pow_mono {b j : Nat} (hj : j ≤ 14) (h : 1152921504606846976 ≤ b) : 16 ≤ b / 16 ^ j := by
  rw [Nat.le_div_iff_mul_le (Nat.pow_pos (by decide))]
  calc 16 * 16 ^ j ≤ 16 * 16 ^ 14 := Nat.mul_le_mul_left _ (Nat.pow_le_pow_right (by decide) hj)
    _ ≤ b := by omega
/- One round. -/
theorem hx_round {b j : Nat} {U : Int} (hU : U = ((b / 16 ^ j : Nat) : Int)) (hb : b < 18446744073709551616) : bits .and .u64 U 15 = ((b / 16 ^ j % 16 : Nat) : Int) ∧ U / 16 = ((b / 16 ^ (j + 1) : Nat) : Int) := by
  subst hU
  refine ⟨?_, ?_⟩
  · rw [show (15 : Int) = ((2 ^ 4 - 1 : Nat) : Int) by decide, bits_and_u64_nat _ _ (Nat.lt_of_le_of_lt (Nat.div_le_self _ _) hb) (by decide), Nat.and_two_pow_sub_one_eq_mod]
  · rw [Nat.pow_succ, ← Nat.div_div_eq_div_mul]; rfl
set_option maxRecDepth 100000 in
set_option maxHeartbeats 4000000 in
theorem fbits16 (b : Nat) (w : World) (h0 : 1152921504606846976 ≤ b) (hb : b < 18446744073709551616) (hd : DeB w) :
    Calls Tryz.prog 249 #[.slice none 0 0, .int .u64 b, .int .i64 16, .bool false, .bool false] w (fun e w' => e = .returned (.tuple #[.slice none 0 0, .string ⟨(hexN 16 b).toArray⟩]) ∧ Below w.heap.size w w') := by
  have HP := Lib.hid (fun (W : World) => pow2_16 W)
  have HZ := Lib.hid (fun (W : World) (h : DeB W) => tz16u W h)
  have k1 : IntKind.u64.wrap 16 = 16 := by decide
  have k2 : IntKind.u64.wrap 15 = 15 := by decide
  have k3 : IntKind.u64.wrap 4 = 4 := by decide
  obtain ⟨U0, hU0⟩ : ∃ U0 : Int, U0 = (b : Int) := ⟨_, rfl⟩
  rw [← hU0]
  have HU := Lib.hid (show U0 = ((b / 16 ^ 0 : Nat) : Int) by rw [hU0]; simp)
  have HB := Lib.hid h0
  have HB2 := Lib.hid hb
  clear hU0 h0 hb
  have HD := Lib.hid hd
  clear hd
  go_enter Tryz.func249, Tryz.ntmps249
  go_wp2_with fail
  refine (HP.out _).mono ?_
  rintro e w1 ⟨rfl, rfl⟩
  go_wp2_with fail
  refine (HZ.out _ (HD.out.below ((Below.refl _ w).alloc (Nat.le_refl _) _) HD.out.1)).mono ?_
  rintro e w1 ⟨rfl, rfl⟩
  go_wp2_with fail
  go_loopg [1, 13] 65 (fun i a c wr => ∃ U : Int, a = .int .u64 U ∧ c = .int .i64 (i : Int) ∧ Hid (U = ((b / 16 ^ (65 - i) : Nat) : Int)) ∧ 50 ≤ i ∧ i ≤ 65 ∧ HexAt wr w.heap.size i b ∧ Below w.heap.size w wr)
  case atStart => exact ⟨U0, rfl, rfl, HU, by omega, by omega, ⟨Tryz.zeroCells377, Array.getElem?_push_size, rfl, fun t ht => by omega⟩, (Below.refl _ w).alloc (Nat.le_refl _) _⟩
  case round =>
    obtain ⟨U, rfl, rfl, HUr, hi1, hi2, hh, hbr⟩ := hrel
    obtain ⟨p, rfl⟩ : ∃ p, gk = p + 1 := ⟨gk - 1, by omega⟩
    obtain ⟨r1, r2⟩ := hx_round HUr.out HB2.out
    rw [show 65 - (p + 1) = 64 - p by omega] at HUr r1 r2
    have kp : ((p + 1 : Nat) : Int) - 1 = (p : Int) := by omega
    have hf := hh.frozen p
    obtain ⟨v0, hv0⟩ := hh.here p (by omega)
    have hsz := hbr.size
    by_cases hlt : p = 49
    · have hU16 : ¬ 16 ≤ U := by
        rw [HUr.out, hlt]
        have := HB2.out
        have e : (64 - 49) = 15 := rfl
        rw [e]
        omega
      have k7 := fun (W : World) => hex36 W (n := b / 16 ^ (64 - p) % 16) (d := U) (by
        rw [HUr.out, Nat.mod_eq_of_lt]
        have := HUr.out
        omega) (Nat.mod_lt _ (by decide))
      have hn := hh.next (x := ((hexc (b / 16 ^ (64 - p) % 16)).toNat : Int)) (by omega) rfl
      generalize ((hexc (b / 16 ^ (64 - p) % 16)).toNat : Int) = xd at k7 hn
      subst hlt
      have HC := hn.conv (cap := 16)
      clear HUr r1 r2 hn
      go_wp2
      go_ret2
      exact ⟨rfl, hbr.setCell (p := ⟨w.heap.size, 49, none⟩) (Nat.le_refl _) _⟩
    · have hU16 : 16 ≤ U := by
        have := pow_mono (b := b) (j := 64 - p) (by omega) HB.out
        rw [HUr.out]; omega
      have k7 := fun (W : World) => hex36 W (n := b / 16 ^ (64 - p) % 16) (d := bits .and .u64 U 15) r1 (Nat.mod_lt _ (by decide))
      have hn := hh.next (x := ((hexc (b / 16 ^ (64 - p) % 16)).toNat : Int)) (by omega) rfl
      have HR := Lib.hid (r2.trans (by rw [show 64 - p + 1 = 65 - p by omega]))
      clear HUr r1 r2
      go_wp2
      go_roundg p
      case rel => exact ⟨U / 16, rfl, rfl, HR, by omega, by omega, hn, hbr.setCell (p := ⟨w.heap.size, p, none⟩) (Nat.le_refl _) _⟩
      case measure => omega
end Go.Proofs.YtobpkelblpdajaaGreatDoor
