/- Walk: a float's digits to the base 16. -/
import Derived.Test.YtobpkelblpdajaaGreatDoorTX16
import Derived.Laws.Bits64b
set_option linter.unusedVariables false
set_option linter.unusedSimpArgs false
set_option linter.unusedSectionVars false
namespace Go.Proofs.YtobpkelblpdajaaGreatDoor
open Go Go.RowKit
theorem normF_go {k m : Nat} {e : Int} (h : m < 4503599627370496) (h2 : 4503599627370496 ≤ m * 2 ^ k) : ∃ j, k = j + 1 ∧ normF k m e = normF j (2 * m) (e - 1) ∧ 4503599627370496 ≤ 2 * m * 2 ^ j := by
  cases k with
  | zero => simp at h2; omega
  | succ j => exact ⟨j, rfl, by rw [normF, if_pos h], by rw [Nat.pow_succ] at h2; rw [show 2 * m * 2 ^ j = m * (2 ^ j * 2) by rw [Nat.mul_comm 2 m, Nat.mul_assoc, Nat.mul_comm 2]]; exact h2⟩
theorem normF_end {k m : Nat} {e : Int} (h : ¬ m < 4503599627370496) : normF k m e = (m, e) := by
  cases k with
  | zero => rfl
  | succ j => rw [normF, if_neg h]
theorem and_bit60 (x : Nat) : x &&& 2 ^ 60 = if x.testBit 60 = true then 2 ^ 60 else 0 := by
  apply Nat.eq_of_testBit_eq
  intro i
  rw [Nat.testBit_and, Nat.testBit_two_pow]
  by_cases hi : 60 = i
  · subst hi
    by_cases hx : x.testBit 60 = true
    · rw [if_pos hx, hx, Nat.testBit_two_pow]; rfl
    · rw [if_neg hx, Nat.zero_testBit]; simpa using hx
  · by_cases hx : x.testBit 60 = true
    · rw [if_pos hx, Nat.testBit_two_pow]; simp [hi]
    · rw [if_neg hx, Nat.zero_testBit]; simp [hi]
theorem top_bit {m : Nat} (h : m < 9007199254740992) : bits .and .u64 ((m : Int) * 256) 1152921504606846976 = if m < 4503599627370496 then 0 else 1152921504606846976 := by
  have h1 : ((m : Int) * 256) = ((m * 256 : Nat) : Int) := by omega
  have h2 : (1152921504606846976 : Int) = ((2 ^ 60 : Nat) : Int) := by decide
  have h3 : m * 256 / 2 ^ 60 = m / 4503599627370496 := by omega
  rw [h1, h2, bits_and_u64_nat _ _ (by omega) (by decide), and_bit60, Nat.testBit_eq_decide_div_mod_eq, h3]
  by_cases hm : m < 4503599627370496
  · rw [if_pos hm, Nat.div_eq_of_lt hm]; rfl
  · rw [if_neg hm, show m / 4503599627370496 = 1 by omega]; rfl
theorem OwnB.app {w : World} {B : Nat} {v : Value} {l m : List UInt8} {news : List Value} {k : Nat} (hk : k = m.length) (hn : news = Lib.byteCells m) (h : w.ownsRow B 5 1 v (l.length + k) (Lib.byteCells l ++ news)) : OwnB w B v (l ++ m) := by
  subst hk
  subst hn
  unfold OwnB
  rw [Lib.byteCells_append, List.length_append]
  exact h
theorem fr_div {G j : Nat} (hj : j ≤ 12) : G * 16 ^ (15 - j) / 1152921504606846976 = G / 16 ^ j := by
  have h : (1152921504606846976 : Nat) = 16 ^ j * 16 ^ (15 - j) := by rw [← Nat.pow_add, show j + (15 - j) = 15 by omega]
  rw [h, Nat.mul_div_mul_right _ _ (Nat.pow_pos (by decide))]
theorem fr_mod {G j : Nat} (hj : j ≤ 12) : G * 16 ^ (15 - j) * 16 % 18446744073709551616 = G % 16 ^ j * 16 ^ (16 - j) := by
  have h : (18446744073709551616 : Nat) = 16 ^ j * 16 ^ (16 - j) := by rw [← Nat.pow_add, show j + (16 - j) = 16 by omega]
  have h2 : G * 16 ^ (15 - j) * 16 = G * 16 ^ (16 - j) := by rw [Nat.mul_assoc, ← Nat.pow_succ, show (15 - j).succ = 16 - j by omega]
  rw [h2, h, Nat.mul_mod_mul_right]
theorem hex_u64 (w : World) {d : Int} {n : Nat} (hd : d = (n : Int)) (h : n < 16) : (Instr.index 9 (.string ⟨#[48, 49, 50, 51, 52, 53, 54, 55, 56, 57, 97, 98, 99, 100, 101, 102]⟩) (.int .u64 d)).run Tryz.prog w = .ok (.int .u8 (hexc n).toNat) w := by
  subst hd
  have h2 : n = 0 ∨ n = 1 ∨ n = 2 ∨ n = 3 ∨ n = 4 ∨ n = 5 ∨ n = 6 ∨ n = 7 ∨ n = 8 ∨ n = 9 ∨ n = 10 ∨ n = 11 ∨ n = 12 ∨ n = 13 ∨ n = 14 ∨ n = 15 := by omega
  rcases h2 with rfl | rfl | rfl | rfl | rfl | rfl | rfl | rfl | rfl | rfl | rfl | rfl | rfl | rfl | rfl | rfl <;> (simp [go_sem, hexc]; rfl)
/- What one round of the digits' loop needs. -/
theorem fr_round {k G : Nat} {X : Int} (hk : k ≤ 13) (hG : G < 16 ^ k) (hX : X = ((G * 16 ^ (16 - k) : Nat) : Int)) (h0 : G ≠ 0) : ∃ (j : Nat) (Y : Int), k = j + 1 ∧ bits .and .u64 (X / 1152921504606846976) 15 = ((G / 16 ^ j : Nat) : Int) ∧ G / 16 ^ j < 16 ∧ X * 16 % 18446744073709551616 = Y ∧ Y = ((G % 16 ^ j * 16 ^ (16 - j) : Nat) : Int) ∧ G % 16 ^ j < 16 ^ j ∧ fracD k G = hexc (G / 16 ^ j) :: fracD j (G % 16 ^ j) := by
  cases k with
  | zero => simp at hG; omega
  | succ j =>
    have e1 : 16 - (j + 1) = 15 - j := by omega
    rw [e1] at hX
    have hd : G / 16 ^ j < 16 := by rw [Nat.pow_succ] at hG; exact Nat.div_lt_of_lt_mul hG
    refine ⟨j, _, rfl, ?_, hd, rfl, ?_, Nat.mod_lt _ (Nat.pow_pos (by decide)), by rw [fracD, if_neg h0]⟩
    · have : X / 1152921504606846976 = ((G / 16 ^ j : Nat) : Int) := by rw [hX, ← fr_div (by omega)]; omega
      rw [this, show (15 : Int) = ((15 : Nat) : Int) from rfl, bits_and_u64_nat _ _ (by omega) (by decide)]
      congr 1
      exact (Nat.and_two_pow_sub_one_eq_mod _ 4).trans (Nat.mod_eq_of_lt hd)
    · rw [hX, ← fr_mod (by omega)]; omega
theorem dig2 {n : Nat} (h : n < 100) : (if n < 10 then [48] else []) ++ Lib.decDigits n = [UInt8.ofNat (48 + n / 10), UInt8.ofNat (48 + n % 10)] := by
  by_cases h1 : n < 10
  · rw [if_pos h1, Lib.decDigits_one h1, Nat.div_eq_of_lt h1, Nat.mod_eq_of_lt h1]; rfl
  · rw [if_neg h1, Lib.decDigits_two h1 h]; rfl
theorem dig3 {n : Nat} (h1 : 100 ≤ n) (h : n < 1000) : (if n < 10 then [48] else []) ++ Lib.decDigits n = [UInt8.ofNat (48 + n / 100), UInt8.ofNat (48 + n / 10 % 10), UInt8.ofNat (48 + n % 10)] := by
  rw [if_neg (by omega), Lib.decDigits, dif_neg (by omega), Lib.decDigits_two (by omega) (by omega), Nat.div_div_eq_div_mul]; rfl
theorem dig4 {n : Nat} (h1 : 1000 ≤ n) (h : n < 10000) : (if n < 10 then [48] else []) ++ Lib.decDigits n = [UInt8.ofNat (48 + n / 1000), UInt8.ofNat (48 + n / 100 % 10), UInt8.ofNat (48 + n / 10 % 10), UInt8.ofNat (48 + n % 10)] := by
  rw [if_neg (by omega), Lib.decDigits, dif_neg (by omega), Lib.decDigits, dif_neg (by omega), Lib.decDigits_two (by omega) (by omega)]
  simp [Nat.div_div_eq_div_mul]
set_option maxRecDepth 100000 in
set_option maxHeartbeats 1000000 in
theorem lower_x (w : World) : Calls Tryz.prog 309 #[.int .u8 120] w fun e w' => e = .returned (.int .u8 120) ∧ w = w' := by
  have k32 : bits .or .u8 120 32 = 120 := by decide
  go_enter Tryz.func309, Tryz.ntmps309
  go_wp2
  go_ret
  exact ⟨rfl, rfl⟩
theorem cells2 {q : Nat} (h : q < 100) : [Value.int .u8 ((q : Int) / 10 + 48), Value.int .u8 ((q : Int) % 10 + 48)] = Lib.byteCells [UInt8.ofNat (48 + q / 10), UInt8.ofNat (48 + q % 10)] := by
  unfold Lib.byteCells
  simp only [List.map_cons, List.map_nil, UInt8.toNat_ofNat']
  rw [show ((q : Int) / 10 + 48) = (((48 + q / 10) % 2 ^ 8 : Nat) : Int) by omega, show ((q : Int) % 10 + 48) = (((48 + q % 10) % 2 ^ 8 : Nat) : Int) by omega]
theorem cells3 {q : Nat} (h : q < 1000) : [Value.int .u8 ((q : Int) / 100 + 48), Value.int .u8 ((q : Int) / 10 % 10 + 48), Value.int .u8 ((q : Int) % 10 + 48)] = Lib.byteCells [UInt8.ofNat (48 + q / 100), UInt8.ofNat (48 + q / 10 % 10), UInt8.ofNat (48 + q % 10)] := by
  unfold Lib.byteCells
  simp only [List.map_cons, List.map_nil, UInt8.toNat_ofNat']
  rw [show ((q : Int) / 100 + 48) = (((48 + q / 100) % 2 ^ 8 : Nat) : Int) by omega, show ((q : Int) / 10 % 10 + 48) = (((48 + q / 10 % 10) % 2 ^ 8 : Nat) : Int) by omega, show ((q : Int) % 10 + 48) = (((48 + q % 10) % 2 ^ 8 : Nat) : Int) by omega]
theorem cells4 {q : Nat} (h : q < 10000) : [Value.int .u8 ((q : Int) / 1000 + 48), Value.int .u8 ((q : Int) / 100 % 10 + 48), Value.int .u8 ((q : Int) / 10 % 10 + 48), Value.int .u8 ((q : Int) % 10 + 48)] = Lib.byteCells [UInt8.ofNat (48 + q / 1000), UInt8.ofNat (48 + q / 100 % 10), UInt8.ofNat (48 + q / 10 % 10), UInt8.ofNat (48 + q % 10)] := by
  unfold Lib.byteCells
  simp only [List.map_cons, List.map_nil, UInt8.toNat_ofNat']
  rw [show ((q : Int) / 1000 + 48) = (((48 + q / 1000) % 2 ^ 8 : Nat) : Int) by omega, show ((q : Int) / 100 % 10 + 48) = (((48 + q / 100 % 10) % 2 ^ 8 : Nat) : Int) by omega, show ((q : Int) / 10 % 10 + 48) = (((48 + q / 10 % 10) % 2 ^ 8 : Nat) : Int) by omega, show ((q : Int) % 10 + 48) = (((48 + q % 10) % 2 ^ 8 : Nat) : Int) by omega]
theorem one_three {a b c : Int} : ∀ u ∈ [Value.int .u8 a, .int .u8 b, .int .u8 c], u.oneCell' = true := by
  intro u hu; simp at hu; rcases hu with rfl | rfl | rfl <;> rfl
set_option maxRecDepth 100000 in
set_option maxHeartbeats 4000000 in
theorem fmtx_neg (B : Nat) (v : Value) (l : List UInt8) (m0 : Nat) (e0 : Int) (w : World) (hm : m0 < 9007199254740992) (he0 : -2000 ≤ e0) (he1 : e0 ≤ 2000) (hown : OwnB w B v l) (hB : B ≤ w.heap.size) (hl : l.length ≤ 100) (hm0 : m0 ≠ 0) :
    Calls Tryz.prog 294 #[v, .int .i64 (-1), .int .u8 120, .bool true, .int .u64 m0, .int .i64 e0, .int .i64 52] w (AppPost B (l ++ [45] ++ [48, 120, 49] ++ (fracT ((normF 52 m0 e0).1 - 4503599627370496) ++ 112 :: expT (normF 52 m0 e0).2)) w) := by
  obtain ⟨i0, hi0, hz0, hz1, hz2⟩ := info_parts Tryz.infoByte
  obtain ⟨A1, c1, rfl⟩ := ownsRow_form hown
  have hq0 : ((m0 : Int) == 0) = false := by rw [beq_eq_false_iff_ne]; omega
  go_enter Tryz.func294, Tryz.ntmps294
  go_wp2
  go_loop [4, 5] (fun a b => ∃ (k m : Nat) (e : Int), a = .int .u64 ((m : Int) * 256) ∧ b = .int .i64 e ∧ Hid (normF 52 m0 e0 = normF k m e) ∧ 0 < m ∧ m < 9007199254740992 ∧ Hid (4503599627370496 ≤ m * 2 ^ k) ∧ k ≤ 52 ∧ e0 - e = 52 - k) (fun _ b => (intOf b + 5000).toNat)
  case atStart => exact ⟨52, m0, e0, rfl, rfl, Lib.hid rfl, by omega, hm, Lib.hid (Nat.le_trans (by decide : 4503599627370496 ≤ 1 * 2 ^ 52) (Nat.mul_le_mul_right _ (by omega))), by omega, by omega⟩
  case round =>
    obtain ⟨k, m, e, rfl, rfl, HN, hm1, hm2, HK, hk, hke⟩ := hrel
    have hqa : (((m : Int) * 256) != 0) = true := by rw [bne_iff_ne]; omega
    by_cases hlt : m < 4503599627370496
    · have hqb : (bits .and .u64 ((m : Int) * 256) 1152921504606846976 == 0) = true := by rw [top_bit hm2, if_pos hlt]; rfl
      obtain ⟨j, rfl, hj, hj2⟩ := normF_go (e := e) hlt HK.out
      have HN2 : Hid (normF 52 m0 e0 = normF j (2 * m) (e - 1)) := Lib.hid (HN.out.trans hj)
      have HK2 := Lib.hid hj2
      clear hj hj2 HN HK
      go_wp2
      go_round
      case rel => exact ⟨j, 2 * m, e - 1, by go_num, rfl, HN2, by omega, by omega, HK2, by omega, by omega⟩
      case measure => simp [intOf]; omega
    · have hqb : (bits .and .u64 ((m : Int) * 256) 1152921504606846976 == 0) = false := by rw [top_bit hm2, if_neg hlt]; rfl
      have HE : Hid (normF 52 m0 e0 = (m, e)) := Lib.hid (HN.out.trans (normF_end hlt))
      clear HN HK
      obtain ⟨F, hF⟩ : ∃ F, m = F + 4503599627370496 := ⟨m - 4503599627370496, by omega⟩
      have hF2 : F < 4503599627370496 := by omega
      obtain ⟨N, hN⟩ : ∃ N : Int, N = (F : Int) * 4096 := ⟨_, rfl⟩
      have k22 : bits .and .u64 ((m : Int) * 256 / 1152921504606846976) 1 = 1 := by
        have : ((m : Int) * 256 / 1152921504606846976) = 1 := by omega
        rw [this]; decide
      have k23 : (m : Int) * 256 * 16 % 18446744073709551616 = N := by omega
      have k24 : IntKind.u64.wrap ((m : Int) * 256 * 16) = N := by rw [IntKind.wrap_u64]; exact k23
      generalize (m : Int) * 256 = M at *
      have HF := Lib.hid hF
      have HF2 := Lib.hid hF2
      have HNF := Lib.hid hN
      clear hF hF2 hN hm1 hm2 hlt
      go_wp2_with (at_builtin; refine wpList_append_own _ rfl (.tmp 75) (.tmp 76) 23 rfl B 5 i0 _ 1 1 Tryz.underlying23 hi0 hz0 hz1 hz2 rfl (by omega) _ l.length _ rfl (World.ownsRow.alloc hown _) ⟨w.heap.size, 0, none⟩ 1 1 [_] rfl rfl (news_at rfl) (one_of1 rfl) (by unfold maxLen; omega) (by omega) (by simp; omega) ?_; intro v1 w1 hn1 hg1 _; refine Hid.out ?_)
      have ho1 := OwnB.app (m := [45]) rfl (by rfl) hn1
      have hb1 : Below B w w1 := grown_below hown hB hg1
      have hs1 := hb1.size
      obtain ⟨L1, hL1⟩ : ∃ L, L = l ++ [45] := ⟨_, rfl⟩
      have hl1 : L1.length ≤ 101 := by rw [hL1, List.length_append]; simp; omega
      rw [← hL1] at ho1
      have HL1 := Lib.hid hL1
      obtain ⟨A1, c1, hv1⟩ := ownsRow_form ho1
      subst hv1
      clear hn1 hg1 hL1 hown
      refine Lib.hid ?_
      go_wp2_with (at_builtin; refine wpList_append_own _ rfl (.tmp 78) (.tmp 85) 23 rfl B 5 i0 _ 1 1 Tryz.underlying23 hi0 hz0 hz1 hz2 rfl (by omega) _ L1.length _ rfl (World.ownsRow.alloc ho1 _) ⟨w1.heap.size, 0, none⟩ 3 3 [_, _, _] rfl rfl (news_at rfl) one_three (by unfold maxLen; omega) (by omega) (by simp; omega) ?_; intro v2 w2 hn2 hg2 _; refine Hid.out ?_)
      have ho2 := OwnB.app (m := [48, 120, 49]) rfl (by rfl) hn2
      have hb2 : Below B w w2 := hb1.trans (grown_below ho1 (by omega) hg2)
      have hs2 := hb2.size
      obtain ⟨L2, hL2⟩ : ∃ L, L = L1 ++ [48, 120, 49] := ⟨_, rfl⟩
      have hl2 : L2.length ≤ 104 := by rw [hL2, List.length_append]; simp; omega
      rw [← hL2] at ho2
      have HL2 := Lib.hid hL2
      obtain ⟨A2, c2, hv2⟩ := ownsRow_form ho2
      subst hv2
      clear hn2 hg2 hL2 ho1
      refine Lib.hid ?_
      clear k22
      by_cases hF0 : N = 0
      · have hFz : F = 0 := by have := HNF.out; omega
        have HFT : Hid (fracT F = []) := Lib.hid (by rw [hFz]; rfl)
        clear hFz
        subst hF0
        have KL := Lib.hid (fun (W : World) => lower_x W)
        go_wp2_with fail
        refine (KL.out _).mono ?_
        rintro eL wL ⟨rfl, rfl⟩
        go_wp2_with (at_builtin; refine wpList_append_own _ rfl (.tmp 134) (.tmp 136) 23 rfl B 5 i0 _ 1 1 Tryz.underlying23 hi0 hz0 hz1 hz2 rfl (by omega) _ L2.length _ rfl (World.ownsRow.alloc ho2 _) ⟨w2.heap.size, 0, none⟩ 1 1 [_] rfl rfl (news_at rfl) (one_of1 rfl) (by unfold maxLen; omega) (by omega) (by simp; omega) ?_; intro v3 w3 hn3 hg3 _; refine Hid.out ?_)
        have ho3 := OwnB.app (m := [112]) rfl (by rfl) hn3
        have hb3 : Below B w w3 := hb2.trans (grown_below ho2 (by omega) hg3)
        have hs3 := hb3.size
        obtain ⟨L3, hL3⟩ : ∃ L, L = L2 ++ [112] := ⟨_, rfl⟩
        have hl3 : L3.length ≤ 105 := by rw [hL3, List.length_append]; simp; omega
        rw [← hL3] at ho3
        have HL3 := Lib.hid hL3
        obtain ⟨A3, c3, hv3⟩ := ownsRow_form ho3
        subst hv3
        clear hn3 hg3 hL3 ho2
        refine Lib.hid ?_
        by_cases hen : e < 0
        · obtain ⟨q, hqe⟩ : ∃ q : Nat, e = -(q : Int) := ⟨e.natAbs, by omega⟩
          have HQ : Hid (e = -(q : Int)) := Lib.hid hqe
          have hq1 : 1 ≤ q := by omega
          have hq2 : q < 10000 := by omega
          have kneg : -e = (q : Int) := by omega
          clear hqe
          go_wp2_with (at_builtin; refine wpList_append_own _ rfl (.tmp 142) (.tmp 144) 23 rfl B 5 i0 _ 1 1 Tryz.underlying23 hi0 hz0 hz1 hz2 rfl (by omega) _ L3.length _ rfl (World.ownsRow.alloc ho3 _) ⟨w3.heap.size, 0, none⟩ 1 1 [_] rfl rfl (news_at rfl) (one_of1 rfl) (by unfold maxLen; omega) (by omega) (by simp; omega) ?_; intro v4 w4 hn4 hg4 _; refine Hid.out ?_)
          have ho4 := OwnB.app (m := [45]) rfl (by rfl) hn4
          have hb4 : Below B w w4 := hb3.trans (grown_below ho3 (by omega) hg4)
          have hs4 := hb4.size
          obtain ⟨L4, hL4⟩ : ∃ L, L = L3 ++ [45] := ⟨_, rfl⟩
          have hl4 : L4.length ≤ 106 := by rw [hL4, List.length_append]; simp; omega
          rw [← hL4] at ho4
          have HL4 := Lib.hid hL4
          obtain ⟨A4, c4, hv4⟩ := ownsRow_form ho4
          subst hv4
          clear hn4 hg4 hL4 ho3
          refine Lib.hid ?_
          have HX : Hid (expT e = 45 :: ((if q < 10 then [48] else []) ++ Lib.decDigits q)) := Lib.hid (by rw [HQ.out]; unfold expT; rw [if_pos (by omega), Int.natAbs_neg]; rfl)
          by_cases h100 : q < 100
          · go_wp2_with (at_builtin; refine wpList_append_own _ rfl (.tmp 170) (.tmp 179) 23 rfl B 5 i0 _ 1 1 Tryz.underlying23 hi0 hz0 hz1 hz2 rfl (by omega) _ L4.length _ rfl (World.ownsRow.alloc ho4 _) ⟨w4.heap.size, 0, none⟩ 2 2 [_, _] rfl rfl (news_at rfl) (one_of2 rfl rfl) (by unfold maxLen; omega) (by omega) (by simp; omega) ?_; intro v5 w5 hn5 hg5 _; refine Hid.out ?_)
            have ho5 := OwnB.app (m := [UInt8.ofNat (48 + q / 10), UInt8.ofNat (48 + q % 10)]) rfl (cells2 (by omega)) hn5
            have hb5 : Below B w w5 := hb4.trans (grown_below ho4 (by omega) hg5)
            have hs5 := hb5.size
            obtain ⟨L5, hL5⟩ : ∃ L, L = L4 ++ [UInt8.ofNat (48 + q / 10), UInt8.ofNat (48 + q % 10)] := ⟨_, rfl⟩
            have hl5 : L5.length ≤ 108 := by rw [hL5, List.length_append]; simp; omega
            rw [← hL5] at ho5
            have HL5 := Lib.hid hL5
            obtain ⟨A5, c5, hv5⟩ := ownsRow_form ho5
            subst hv5
            clear hn5 hg5 hL5 ho4
            refine Lib.hid ?_
            go_wp2
            go_ret
            refine ⟨_, rfl, ?_, hb5⟩
            have HEQ : L5 = l ++ [45] ++ [48, 120, 49] ++ (fracT ((normF 52 m0 e0).1 - 4503599627370496) ++ 112 :: expT (normF 52 m0 e0).2) := by
              have hF3 : m - 4503599627370496 = F := by have := HF.out; omega
              rw [HE.out]
              simp only
              rw [hF3, HFT.out, HX.out, dig2 (by omega), HL5.out, HL4.out, HL3.out, HL2.out, HL1.out]
              simp [List.append_assoc]
            rw [← HEQ]
            exact ho5
          · by_cases h1000 : q < 1000
            · go_wp2_with (at_builtin; refine wpList_append_own _ rfl (.tmp 184) (.tmp 198) 23 rfl B 5 i0 _ 1 1 Tryz.underlying23 hi0 hz0 hz1 hz2 rfl (by omega) _ L4.length _ rfl (World.ownsRow.alloc ho4 _) ⟨w4.heap.size, 0, none⟩ 3 3 [_, _, _] rfl rfl (news_at rfl) one_three (by unfold maxLen; omega) (by omega) (by simp; omega) ?_; intro v5 w5 hn5 hg5 _; refine Hid.out ?_)
              have ho5 := OwnB.app (m := [UInt8.ofNat (48 + q / 100), UInt8.ofNat (48 + q / 10 % 10), UInt8.ofNat (48 + q % 10)]) rfl (cells3 (by omega)) hn5
              have hb5 : Below B w w5 := hb4.trans (grown_below ho4 (by omega) hg5)
              have hs5 := hb5.size
              obtain ⟨L5, hL5⟩ : ∃ L, L = L4 ++ [UInt8.ofNat (48 + q / 100), UInt8.ofNat (48 + q / 10 % 10), UInt8.ofNat (48 + q % 10)] := ⟨_, rfl⟩
              have hl5 : L5.length ≤ 109 := by rw [hL5, List.length_append]; simp; omega
              rw [← hL5] at ho5
              have HL5 := Lib.hid hL5
              obtain ⟨A5, c5, hv5⟩ := ownsRow_form ho5
              subst hv5
              clear hn5 hg5 hL5 ho4
              refine Lib.hid ?_
              go_wp2
              go_ret
              refine ⟨_, rfl, ?_, hb5⟩
              have HEQ : L5 = l ++ [45] ++ [48, 120, 49] ++ (fracT ((normF 52 m0 e0).1 - 4503599627370496) ++ 112 :: expT (normF 52 m0 e0).2) := by
                have hF3 : m - 4503599627370496 = F := by have := HF.out; omega
                rw [HE.out]
                simp only
                rw [hF3, HFT.out, HX.out, dig3 (by omega) (by omega), HL5.out, HL4.out, HL3.out, HL2.out, HL1.out]
                simp [List.append_assoc]
              rw [← HEQ]
              exact ho5
            · go_wp2_with (at_builtin; refine wpList_append_own _ rfl (.tmp 146) (.tmp 165) 23 rfl B 5 i0 _ 1 1 Tryz.underlying23 hi0 hz0 hz1 hz2 rfl (by omega) _ L4.length _ rfl (World.ownsRow.alloc ho4 _) ⟨w4.heap.size, 0, none⟩ 4 4 [_, _, _, _] rfl rfl (news_at rfl) one_four (by unfold maxLen; omega) (by omega) (by simp; omega) ?_; intro v5 w5 hn5 hg5 _; refine Hid.out ?_)
              have ho5 := OwnB.app (m := [UInt8.ofNat (48 + q / 1000), UInt8.ofNat (48 + q / 100 % 10), UInt8.ofNat (48 + q / 10 % 10), UInt8.ofNat (48 + q % 10)]) rfl (cells4 (by omega)) hn5
              have hb5 : Below B w w5 := hb4.trans (grown_below ho4 (by omega) hg5)
              have hs5 := hb5.size
              obtain ⟨L5, hL5⟩ : ∃ L, L = L4 ++ [UInt8.ofNat (48 + q / 1000), UInt8.ofNat (48 + q / 100 % 10), UInt8.ofNat (48 + q / 10 % 10), UInt8.ofNat (48 + q % 10)] := ⟨_, rfl⟩
              have hl5 : L5.length ≤ 110 := by rw [hL5, List.length_append]; simp; omega
              rw [← hL5] at ho5
              have HL5 := Lib.hid hL5
              obtain ⟨A5, c5, hv5⟩ := ownsRow_form ho5
              subst hv5
              clear hn5 hg5 hL5 ho4
              refine Lib.hid ?_
              go_wp2
              go_ret
              refine ⟨_, rfl, ?_, hb5⟩
              have HEQ : L5 = l ++ [45] ++ [48, 120, 49] ++ (fracT ((normF 52 m0 e0).1 - 4503599627370496) ++ 112 :: expT (normF 52 m0 e0).2) := by
                have hF3 : m - 4503599627370496 = F := by have := HF.out; omega
                rw [HE.out]
                simp only
                rw [hF3, HFT.out, HX.out, dig4 (by omega) (by omega), HL5.out, HL4.out, HL3.out, HL2.out, HL1.out]
                simp [List.append_assoc]
              rw [← HEQ]
              exact ho5
        · obtain ⟨q, hqe⟩ : ∃ q : Nat, e = (q : Int) := ⟨e.natAbs, by omega⟩
          have HQ : Hid (e = (q : Int)) := Lib.hid hqe
          have hq2 : q < 10000 := by omega
          subst hqe
          go_wp2_with (at_builtin; refine wpList_append_own _ rfl (.tmp 142) (.tmp 144) 23 rfl B 5 i0 _ 1 1 Tryz.underlying23 hi0 hz0 hz1 hz2 rfl (by omega) _ L3.length _ rfl (World.ownsRow.alloc ho3 _) ⟨w3.heap.size, 0, none⟩ 1 1 [_] rfl rfl (news_at rfl) (one_of1 rfl) (by unfold maxLen; omega) (by omega) (by simp; omega) ?_; intro v4 w4 hn4 hg4 _; refine Hid.out ?_)
          have ho4 := OwnB.app (m := [43]) rfl (by rfl) hn4
          have hb4 : Below B w w4 := hb3.trans (grown_below ho3 (by omega) hg4)
          have hs4 := hb4.size
          obtain ⟨L4, hL4⟩ : ∃ L, L = L3 ++ [43] := ⟨_, rfl⟩
          have hl4 : L4.length ≤ 106 := by rw [hL4, List.length_append]; simp; omega
          rw [← hL4] at ho4
          have HL4 := Lib.hid hL4
          obtain ⟨A4, c4, hv4⟩ := ownsRow_form ho4
          subst hv4
          clear hn4 hg4 hL4 ho3
          refine Lib.hid ?_
          have HX : Hid (expT (q : Int) = 43 :: ((if q < 10 then [48] else []) ++ Lib.decDigits q)) := Lib.hid (by unfold expT; rw [if_neg (by omega)]; rfl)
          by_cases h100 : q < 100
          · go_wp2_with (at_builtin; refine wpList_append_own _ rfl (.tmp 170) (.tmp 179) 23 rfl B 5 i0 _ 1 1 Tryz.underlying23 hi0 hz0 hz1 hz2 rfl (by omega) _ L4.length _ rfl (World.ownsRow.alloc ho4 _) ⟨w4.heap.size, 0, none⟩ 2 2 [_, _] rfl rfl (news_at rfl) (one_of2 rfl rfl) (by unfold maxLen; omega) (by omega) (by simp; omega) ?_; intro v5 w5 hn5 hg5 _; refine Hid.out ?_)
            have ho5 := OwnB.app (m := [UInt8.ofNat (48 + q / 10), UInt8.ofNat (48 + q % 10)]) rfl (cells2 (by omega)) hn5
            have hb5 : Below B w w5 := hb4.trans (grown_below ho4 (by omega) hg5)
            have hs5 := hb5.size
            obtain ⟨L5, hL5⟩ : ∃ L, L = L4 ++ [UInt8.ofNat (48 + q / 10), UInt8.ofNat (48 + q % 10)] := ⟨_, rfl⟩
            have hl5 : L5.length ≤ 108 := by rw [hL5, List.length_append]; simp; omega
            rw [← hL5] at ho5
            have HL5 := Lib.hid hL5
            obtain ⟨A5, c5, hv5⟩ := ownsRow_form ho5
            subst hv5
            clear hn5 hg5 hL5 ho4
            refine Lib.hid ?_
            go_wp2
            go_ret
            refine ⟨_, rfl, ?_, hb5⟩
            have HEQ : L5 = l ++ [45] ++ [48, 120, 49] ++ (fracT ((normF 52 m0 e0).1 - 4503599627370496) ++ 112 :: expT (normF 52 m0 e0).2) := by
              have hF3 : m - 4503599627370496 = F := by have := HF.out; omega
              rw [HE.out]
              simp only
              rw [hF3, HFT.out, HX.out, dig2 (by omega), HL5.out, HL4.out, HL3.out, HL2.out, HL1.out]
              simp [List.append_assoc]
            rw [← HEQ]
            exact ho5
          · by_cases h1000 : q < 1000
            · go_wp2_with (at_builtin; refine wpList_append_own _ rfl (.tmp 184) (.tmp 198) 23 rfl B 5 i0 _ 1 1 Tryz.underlying23 hi0 hz0 hz1 hz2 rfl (by omega) _ L4.length _ rfl (World.ownsRow.alloc ho4 _) ⟨w4.heap.size, 0, none⟩ 3 3 [_, _, _] rfl rfl (news_at rfl) one_three (by unfold maxLen; omega) (by omega) (by simp; omega) ?_; intro v5 w5 hn5 hg5 _; refine Hid.out ?_)
              have ho5 := OwnB.app (m := [UInt8.ofNat (48 + q / 100), UInt8.ofNat (48 + q / 10 % 10), UInt8.ofNat (48 + q % 10)]) rfl (cells3 (by omega)) hn5
              have hb5 : Below B w w5 := hb4.trans (grown_below ho4 (by omega) hg5)
              have hs5 := hb5.size
              obtain ⟨L5, hL5⟩ : ∃ L, L = L4 ++ [UInt8.ofNat (48 + q / 100), UInt8.ofNat (48 + q / 10 % 10), UInt8.ofNat (48 + q % 10)] := ⟨_, rfl⟩
              have hl5 : L5.length ≤ 109 := by rw [hL5, List.length_append]; simp; omega
              rw [← hL5] at ho5
              have HL5 := Lib.hid hL5
              obtain ⟨A5, c5, hv5⟩ := ownsRow_form ho5
              subst hv5
              clear hn5 hg5 hL5 ho4
              refine Lib.hid ?_
              go_wp2
              go_ret
              refine ⟨_, rfl, ?_, hb5⟩
              have HEQ : L5 = l ++ [45] ++ [48, 120, 49] ++ (fracT ((normF 52 m0 e0).1 - 4503599627370496) ++ 112 :: expT (normF 52 m0 e0).2) := by
                have hF3 : m - 4503599627370496 = F := by have := HF.out; omega
                rw [HE.out]
                simp only
                rw [hF3, HFT.out, HX.out, dig3 (by omega) (by omega), HL5.out, HL4.out, HL3.out, HL2.out, HL1.out]
                simp [List.append_assoc]
              rw [← HEQ]
              exact ho5
            · go_wp2_with (at_builtin; refine wpList_append_own _ rfl (.tmp 146) (.tmp 165) 23 rfl B 5 i0 _ 1 1 Tryz.underlying23 hi0 hz0 hz1 hz2 rfl (by omega) _ L4.length _ rfl (World.ownsRow.alloc ho4 _) ⟨w4.heap.size, 0, none⟩ 4 4 [_, _, _, _] rfl rfl (news_at rfl) one_four (by unfold maxLen; omega) (by omega) (by simp; omega) ?_; intro v5 w5 hn5 hg5 _; refine Hid.out ?_)
              have ho5 := OwnB.app (m := [UInt8.ofNat (48 + q / 1000), UInt8.ofNat (48 + q / 100 % 10), UInt8.ofNat (48 + q / 10 % 10), UInt8.ofNat (48 + q % 10)]) rfl (cells4 (by omega)) hn5
              have hb5 : Below B w w5 := hb4.trans (grown_below ho4 (by omega) hg5)
              have hs5 := hb5.size
              obtain ⟨L5, hL5⟩ : ∃ L, L = L4 ++ [UInt8.ofNat (48 + q / 1000), UInt8.ofNat (48 + q / 100 % 10), UInt8.ofNat (48 + q / 10 % 10), UInt8.ofNat (48 + q % 10)] := ⟨_, rfl⟩
              have hl5 : L5.length ≤ 110 := by rw [hL5, List.length_append]; simp; omega
              rw [← hL5] at ho5
              have HL5 := Lib.hid hL5
              obtain ⟨A5, c5, hv5⟩ := ownsRow_form ho5
              subst hv5
              clear hn5 hg5 hL5 ho4
              refine Lib.hid ?_
              go_wp2
              go_ret
              refine ⟨_, rfl, ?_, hb5⟩
              have HEQ : L5 = l ++ [45] ++ [48, 120, 49] ++ (fracT ((normF 52 m0 e0).1 - 4503599627370496) ++ 112 :: expT (normF 52 m0 e0).2) := by
                have hF3 : m - 4503599627370496 = F := by have := HF.out; omega
                rw [HE.out]
                simp only
                rw [hF3, HFT.out, HX.out, dig4 (by omega) (by omega), HL5.out, HL4.out, HL3.out, HL2.out, HL1.out]
                simp [List.append_assoc]
              rw [← HEQ]
              exact ho5
      · have qN : (N != 0) = true := by rw [bne_iff_ne]; exact hF0
        have hFz : F ≠ 0 := by intro h; apply hF0; have := HNF.out; rw [h] at this; simpa using this
        have HFT : Hid (fracT F = 46 :: fracD 13 F) := Lib.hid (by unfold fracT; rw [if_neg hFz])
        clear hF0 hFz
        go_wp2_with (at_builtin; refine wpList_append_own _ rfl (.tmp 95) (.tmp 96) 23 rfl B 5 i0 _ 1 1 Tryz.underlying23 hi0 hz0 hz1 hz2 rfl (by omega) _ L2.length _ rfl (World.ownsRow.alloc ho2 _) ⟨w2.heap.size, 0, none⟩ 1 1 [_] rfl rfl (news_at rfl) (one_of1 rfl) (by unfold maxLen; omega) (by omega) (by simp; omega) ?_; intro v3 w3 hn3 hg3 _; refine Hid.out ?_)
        have ho3 := OwnB.app (m := [46]) rfl (by rfl) hn3
        have hb3 : Below B w w3 := hb2.trans (grown_below ho2 (by omega) hg3)
        have hs3 := hb3.size
        obtain ⟨L3, hL3⟩ : ∃ L, L = L2 ++ [46] := ⟨_, rfl⟩
        have hl3 : L3.length ≤ 105 := by rw [hL3, List.length_append]; simp; omega
        rw [← hL3] at ho3
        have HL3 := Lib.hid hL3
        obtain ⟨A3, c3, hv3⟩ := ownsRow_form ho3
        subst hv3
        clear hn3 hg3 hL3 ho2
        refine Lib.hid ?_
        go_wp2_with fail
        clear qN k23 k24
        go_loopg [0, 4] 13 (fun k v x wr => ∃ (G : Nat) (X : Int) (pre : List UInt8), x = .int .u64 X ∧ Hid (X = ((G * 16 ^ (16 - k) : Nat) : Int) ∧ G < 16 ^ k ∧ pre ++ fracD k G = fracD 13 F) ∧ k ≤ 13 ∧ pre.length + k ≤ 13 ∧ OwnB wr B v (L3 ++ pre) ∧ Below B w wr)
        case atStart => exact ⟨F, N, [], rfl, Lib.hid ⟨by rw [HNF.out]; omega, by have := HF2.out; omega, rfl⟩, by omega, by simp, by rw [List.append_nil]; exact ho3, hb3⟩
        case round =>
          obtain ⟨G, X, pre, rfl, HI, hk13, hpl, howr, hbr⟩ := hrel
          have hsr := hbr.size
          obtain ⟨Lr, hLr⟩ : ∃ L, L = L3 ++ pre := ⟨_, rfl⟩
          have hlr : Lr.length ≤ 118 := by rw [hLr, List.length_append]; omega
          rw [← hLr] at howr
          have HLr := Lib.hid hLr
          clear hLr
          obtain ⟨Ar, cr, hvr⟩ := ownsRow_form howr
          subst hvr
          by_cases hX : X = 0
          · have hG0 : G = 0 := by
              have h1 := HI.out.1
              rw [hX] at h1
              have h2 : G * 16 ^ (16 - gk) = 0 := by omega
              rcases Nat.mul_eq_zero.1 h2 with h | h
              · exact h
              · exact absurd h (Nat.ne_of_gt (Nat.pow_pos (by decide)))
            have HFD : Hid (fracD 13 F = pre) := Lib.hid (by rw [← HI.out.2.2, hG0, fracD_zero, List.append_nil])
            clear hG0 HI
            subst hX
            have KL := Lib.hid (fun (W : World) => lower_x W)
            go_wp2_with fail
            refine (KL.out _).mono ?_
            rintro eL wL ⟨rfl, rfl⟩
            go_wp2_with (at_builtin; refine wpList_append_own _ rfl (.tmp 134) (.tmp 136) 23 rfl B 5 i0 _ 1 1 Tryz.underlying23 hi0 hz0 hz1 hz2 rfl (by omega) _ Lr.length _ rfl (World.ownsRow.alloc howr _) ⟨wr.heap.size, 0, none⟩ 1 1 [_] rfl rfl (news_at rfl) (one_of1 rfl) (by unfold maxLen; omega) (by omega) (by simp; omega) ?_; intro v4 w4 hn4 hg4 _; refine Hid.out ?_)
            have ho4 := OwnB.app (m := [112]) rfl (by rfl) hn4
            have hb4 : Below B w w4 := hbr.trans (grown_below howr (by omega) hg4)
            have hs4 := hb4.size
            obtain ⟨L4, hL4⟩ : ∃ L, L = Lr ++ [112] := ⟨_, rfl⟩
            have hl4 : L4.length ≤ 119 := by rw [hL4, List.length_append]; simp; omega
            rw [← hL4] at ho4
            have HL4 := Lib.hid hL4
            obtain ⟨A4, c4, hv4⟩ := ownsRow_form ho4
            subst hv4
            clear hn4 hg4 hL4 howr
            refine Lib.hid ?_
            by_cases hen : e < 0
            · obtain ⟨q, hqe⟩ : ∃ q : Nat, e = -(q : Int) := ⟨e.natAbs, by omega⟩
              have HQ : Hid (e = -(q : Int)) := Lib.hid hqe
              have hq1 : 1 ≤ q := by omega
              have hq2 : q < 10000 := by omega
              have kneg : -e = (q : Int) := by omega
              clear hqe
              go_wp2_with (at_builtin; refine wpList_append_own _ rfl (.tmp 142) (.tmp 144) 23 rfl B 5 i0 _ 1 1 Tryz.underlying23 hi0 hz0 hz1 hz2 rfl (by omega) _ L4.length _ rfl (World.ownsRow.alloc ho4 _) ⟨w4.heap.size, 0, none⟩ 1 1 [_] rfl rfl (news_at rfl) (one_of1 rfl) (by unfold maxLen; omega) (by omega) (by simp; omega) ?_; intro v5 w5 hn5 hg5 _; refine Hid.out ?_)
              have ho5 := OwnB.app (m := [45]) rfl (by rfl) hn5
              have hb5 : Below B w w5 := hb4.trans (grown_below ho4 (by omega) hg5)
              have hs5 := hb5.size
              obtain ⟨L5, hL5⟩ : ∃ L, L = L4 ++ [45] := ⟨_, rfl⟩
              have hl5 : L5.length ≤ 120 := by rw [hL5, List.length_append]; simp; omega
              rw [← hL5] at ho5
              have HL5 := Lib.hid hL5
              obtain ⟨A5, c5, hv5⟩ := ownsRow_form ho5
              subst hv5
              clear hn5 hg5 hL5 ho4
              refine Lib.hid ?_
              have HX : Hid (expT e = 45 :: ((if q < 10 then [48] else []) ++ Lib.decDigits q)) := Lib.hid (by rw [HQ.out]; unfold expT; rw [if_pos (by omega), Int.natAbs_neg]; rfl)
              by_cases h100 : q < 100
              · go_wp2_with (at_builtin; refine wpList_append_own _ rfl (.tmp 170) (.tmp 179) 23 rfl B 5 i0 _ 1 1 Tryz.underlying23 hi0 hz0 hz1 hz2 rfl (by omega) _ L5.length _ rfl (World.ownsRow.alloc ho5 _) ⟨w5.heap.size, 0, none⟩ 2 2 [_, _] rfl rfl (news_at rfl) (one_of2 rfl rfl) (by unfold maxLen; omega) (by omega) (by simp; omega) ?_; intro v6 w6 hn6 hg6 _; refine Hid.out ?_)
                have ho6 := OwnB.app (m := [UInt8.ofNat (48 + q / 10), UInt8.ofNat (48 + q % 10)]) rfl (cells2 (by omega)) hn6
                have hb6 : Below B w w6 := hb5.trans (grown_below ho5 (by omega) hg6)
                have hs6 := hb6.size
                obtain ⟨L6, hL6⟩ : ∃ L, L = L5 ++ [UInt8.ofNat (48 + q / 10), UInt8.ofNat (48 + q % 10)] := ⟨_, rfl⟩
                have hl6 : L6.length ≤ 122 := by rw [hL6, List.length_append]; simp; omega
                rw [← hL6] at ho6
                have HL6 := Lib.hid hL6
                obtain ⟨A6, c6, hv6⟩ := ownsRow_form ho6
                subst hv6
                clear hn6 hg6 hL6 ho5
                refine Lib.hid ?_
                go_wp2
                go_ret
                refine ⟨_, rfl, ?_, hb6⟩
                have HEQ : L6 = l ++ [45] ++ [48, 120, 49] ++ (fracT ((normF 52 m0 e0).1 - 4503599627370496) ++ 112 :: expT (normF 52 m0 e0).2) := by
                  have hF3 : m - 4503599627370496 = F := by have := HF.out; omega
                  rw [HE.out]
                  simp only
                  rw [hF3, HFT.out, HFD.out, HX.out, dig2 (by omega), HL6.out, HL5.out, HL4.out, HLr.out, HL3.out, HL2.out, HL1.out]
                  simp [List.append_assoc]
                rw [← HEQ]
                exact ho6
              · by_cases h1000 : q < 1000
                · go_wp2_with (at_builtin; refine wpList_append_own _ rfl (.tmp 184) (.tmp 198) 23 rfl B 5 i0 _ 1 1 Tryz.underlying23 hi0 hz0 hz1 hz2 rfl (by omega) _ L5.length _ rfl (World.ownsRow.alloc ho5 _) ⟨w5.heap.size, 0, none⟩ 3 3 [_, _, _] rfl rfl (news_at rfl) one_three (by unfold maxLen; omega) (by omega) (by simp; omega) ?_; intro v6 w6 hn6 hg6 _; refine Hid.out ?_)
                  have ho6 := OwnB.app (m := [UInt8.ofNat (48 + q / 100), UInt8.ofNat (48 + q / 10 % 10), UInt8.ofNat (48 + q % 10)]) rfl (cells3 (by omega)) hn6
                  have hb6 : Below B w w6 := hb5.trans (grown_below ho5 (by omega) hg6)
                  have hs6 := hb6.size
                  obtain ⟨L6, hL6⟩ : ∃ L, L = L5 ++ [UInt8.ofNat (48 + q / 100), UInt8.ofNat (48 + q / 10 % 10), UInt8.ofNat (48 + q % 10)] := ⟨_, rfl⟩
                  have hl6 : L6.length ≤ 123 := by rw [hL6, List.length_append]; simp; omega
                  rw [← hL6] at ho6
                  have HL6 := Lib.hid hL6
                  obtain ⟨A6, c6, hv6⟩ := ownsRow_form ho6
                  subst hv6
                  clear hn6 hg6 hL6 ho5
                  refine Lib.hid ?_
                  go_wp2
                  go_ret
                  refine ⟨_, rfl, ?_, hb6⟩
                  have HEQ : L6 = l ++ [45] ++ [48, 120, 49] ++ (fracT ((normF 52 m0 e0).1 - 4503599627370496) ++ 112 :: expT (normF 52 m0 e0).2) := by
                    have hF3 : m - 4503599627370496 = F := by have := HF.out; omega
                    rw [HE.out]
                    simp only
                    rw [hF3, HFT.out, HFD.out, HX.out, dig3 (by omega) (by omega), HL6.out, HL5.out, HL4.out, HLr.out, HL3.out, HL2.out, HL1.out]
                    simp [List.append_assoc]
                  rw [← HEQ]
                  exact ho6
                · go_wp2_with (at_builtin; refine wpList_append_own _ rfl (.tmp 146) (.tmp 165) 23 rfl B 5 i0 _ 1 1 Tryz.underlying23 hi0 hz0 hz1 hz2 rfl (by omega) _ L5.length _ rfl (World.ownsRow.alloc ho5 _) ⟨w5.heap.size, 0, none⟩ 4 4 [_, _, _, _] rfl rfl (news_at rfl) one_four (by unfold maxLen; omega) (by omega) (by simp; omega) ?_; intro v6 w6 hn6 hg6 _; refine Hid.out ?_)
                  have ho6 := OwnB.app (m := [UInt8.ofNat (48 + q / 1000), UInt8.ofNat (48 + q / 100 % 10), UInt8.ofNat (48 + q / 10 % 10), UInt8.ofNat (48 + q % 10)]) rfl (cells4 (by omega)) hn6
                  have hb6 : Below B w w6 := hb5.trans (grown_below ho5 (by omega) hg6)
                  have hs6 := hb6.size
                  obtain ⟨L6, hL6⟩ : ∃ L, L = L5 ++ [UInt8.ofNat (48 + q / 1000), UInt8.ofNat (48 + q / 100 % 10), UInt8.ofNat (48 + q / 10 % 10), UInt8.ofNat (48 + q % 10)] := ⟨_, rfl⟩
                  have hl6 : L6.length ≤ 124 := by rw [hL6, List.length_append]; simp; omega
                  rw [← hL6] at ho6
                  have HL6 := Lib.hid hL6
                  obtain ⟨A6, c6, hv6⟩ := ownsRow_form ho6
                  subst hv6
                  clear hn6 hg6 hL6 ho5
                  refine Lib.hid ?_
                  go_wp2
                  go_ret
                  refine ⟨_, rfl, ?_, hb6⟩
                  have HEQ : L6 = l ++ [45] ++ [48, 120, 49] ++ (fracT ((normF 52 m0 e0).1 - 4503599627370496) ++ 112 :: expT (normF 52 m0 e0).2) := by
                    have hF3 : m - 4503599627370496 = F := by have := HF.out; omega
                    rw [HE.out]
                    simp only
                    rw [hF3, HFT.out, HFD.out, HX.out, dig4 (by omega) (by omega), HL6.out, HL5.out, HL4.out, HLr.out, HL3.out, HL2.out, HL1.out]
                    simp [List.append_assoc]
                  rw [← HEQ]
                  exact ho6
            · obtain ⟨q, hqe⟩ : ∃ q : Nat, e = (q : Int) := ⟨e.natAbs, by omega⟩
              have HQ : Hid (e = (q : Int)) := Lib.hid hqe
              have hq2 : q < 10000 := by omega
              subst hqe
              go_wp2_with (at_builtin; refine wpList_append_own _ rfl (.tmp 142) (.tmp 144) 23 rfl B 5 i0 _ 1 1 Tryz.underlying23 hi0 hz0 hz1 hz2 rfl (by omega) _ L4.length _ rfl (World.ownsRow.alloc ho4 _) ⟨w4.heap.size, 0, none⟩ 1 1 [_] rfl rfl (news_at rfl) (one_of1 rfl) (by unfold maxLen; omega) (by omega) (by simp; omega) ?_; intro v5 w5 hn5 hg5 _; refine Hid.out ?_)
              have ho5 := OwnB.app (m := [43]) rfl (by rfl) hn5
              have hb5 : Below B w w5 := hb4.trans (grown_below ho4 (by omega) hg5)
              have hs5 := hb5.size
              obtain ⟨L5, hL5⟩ : ∃ L, L = L4 ++ [43] := ⟨_, rfl⟩
              have hl5 : L5.length ≤ 120 := by rw [hL5, List.length_append]; simp; omega
              rw [← hL5] at ho5
              have HL5 := Lib.hid hL5
              obtain ⟨A5, c5, hv5⟩ := ownsRow_form ho5
              subst hv5
              clear hn5 hg5 hL5 ho4
              refine Lib.hid ?_
              have HX : Hid (expT (q : Int) = 43 :: ((if q < 10 then [48] else []) ++ Lib.decDigits q)) := Lib.hid (by unfold expT; rw [if_neg (by omega)]; rfl)
              by_cases h100 : q < 100
              · go_wp2_with (at_builtin; refine wpList_append_own _ rfl (.tmp 170) (.tmp 179) 23 rfl B 5 i0 _ 1 1 Tryz.underlying23 hi0 hz0 hz1 hz2 rfl (by omega) _ L5.length _ rfl (World.ownsRow.alloc ho5 _) ⟨w5.heap.size, 0, none⟩ 2 2 [_, _] rfl rfl (news_at rfl) (one_of2 rfl rfl) (by unfold maxLen; omega) (by omega) (by simp; omega) ?_; intro v6 w6 hn6 hg6 _; refine Hid.out ?_)
                have ho6 := OwnB.app (m := [UInt8.ofNat (48 + q / 10), UInt8.ofNat (48 + q % 10)]) rfl (cells2 (by omega)) hn6
                have hb6 : Below B w w6 := hb5.trans (grown_below ho5 (by omega) hg6)
                have hs6 := hb6.size
                obtain ⟨L6, hL6⟩ : ∃ L, L = L5 ++ [UInt8.ofNat (48 + q / 10), UInt8.ofNat (48 + q % 10)] := ⟨_, rfl⟩
                have hl6 : L6.length ≤ 122 := by rw [hL6, List.length_append]; simp; omega
                rw [← hL6] at ho6
                have HL6 := Lib.hid hL6
                obtain ⟨A6, c6, hv6⟩ := ownsRow_form ho6
                subst hv6
                clear hn6 hg6 hL6 ho5
                refine Lib.hid ?_
                go_wp2
                go_ret
                refine ⟨_, rfl, ?_, hb6⟩
                have HEQ : L6 = l ++ [45] ++ [48, 120, 49] ++ (fracT ((normF 52 m0 e0).1 - 4503599627370496) ++ 112 :: expT (normF 52 m0 e0).2) := by
                  have hF3 : m - 4503599627370496 = F := by have := HF.out; omega
                  rw [HE.out]
                  simp only
                  rw [hF3, HFT.out, HFD.out, HX.out, dig2 (by omega), HL6.out, HL5.out, HL4.out, HLr.out, HL3.out, HL2.out, HL1.out]
                  simp [List.append_assoc]
                rw [← HEQ]
                exact ho6
              · by_cases h1000 : q < 1000
                · go_wp2_with (at_builtin; refine wpList_append_own _ rfl (.tmp 184) (.tmp 198) 23 rfl B 5 i0 _ 1 1 Tryz.underlying23 hi0 hz0 hz1 hz2 rfl (by omega) _ L5.length _ rfl (World.ownsRow.alloc ho5 _) ⟨w5.heap.size, 0, none⟩ 3 3 [_, _, _] rfl rfl (news_at rfl) one_three (by unfold maxLen; omega) (by omega) (by simp; omega) ?_; intro v6 w6 hn6 hg6 _; refine Hid.out ?_)
                  have ho6 := OwnB.app (m := [UInt8.ofNat (48 + q / 100), UInt8.ofNat (48 + q / 10 % 10), UInt8.ofNat (48 + q % 10)]) rfl (cells3 (by omega)) hn6
                  have hb6 : Below B w w6 := hb5.trans (grown_below ho5 (by omega) hg6)
                  have hs6 := hb6.size
                  obtain ⟨L6, hL6⟩ : ∃ L, L = L5 ++ [UInt8.ofNat (48 + q / 100), UInt8.ofNat (48 + q / 10 % 10), UInt8.ofNat (48 + q % 10)] := ⟨_, rfl⟩
                  have hl6 : L6.length ≤ 123 := by rw [hL6, List.length_append]; simp; omega
                  rw [← hL6] at ho6
                  have HL6 := Lib.hid hL6
                  obtain ⟨A6, c6, hv6⟩ := ownsRow_form ho6
                  subst hv6
                  clear hn6 hg6 hL6 ho5
                  refine Lib.hid ?_
                  go_wp2
                  go_ret
                  refine ⟨_, rfl, ?_, hb6⟩
                  have HEQ : L6 = l ++ [45] ++ [48, 120, 49] ++ (fracT ((normF 52 m0 e0).1 - 4503599627370496) ++ 112 :: expT (normF 52 m0 e0).2) := by
                    have hF3 : m - 4503599627370496 = F := by have := HF.out; omega
                    rw [HE.out]
                    simp only
                    rw [hF3, HFT.out, HFD.out, HX.out, dig3 (by omega) (by omega), HL6.out, HL5.out, HL4.out, HLr.out, HL3.out, HL2.out, HL1.out]
                    simp [List.append_assoc]
                  rw [← HEQ]
                  exact ho6
                · go_wp2_with (at_builtin; refine wpList_append_own _ rfl (.tmp 146) (.tmp 165) 23 rfl B 5 i0 _ 1 1 Tryz.underlying23 hi0 hz0 hz1 hz2 rfl (by omega) _ L5.length _ rfl (World.ownsRow.alloc ho5 _) ⟨w5.heap.size, 0, none⟩ 4 4 [_, _, _, _] rfl rfl (news_at rfl) one_four (by unfold maxLen; omega) (by omega) (by simp; omega) ?_; intro v6 w6 hn6 hg6 _; refine Hid.out ?_)
                  have ho6 := OwnB.app (m := [UInt8.ofNat (48 + q / 1000), UInt8.ofNat (48 + q / 100 % 10), UInt8.ofNat (48 + q / 10 % 10), UInt8.ofNat (48 + q % 10)]) rfl (cells4 (by omega)) hn6
                  have hb6 : Below B w w6 := hb5.trans (grown_below ho5 (by omega) hg6)
                  have hs6 := hb6.size
                  obtain ⟨L6, hL6⟩ : ∃ L, L = L5 ++ [UInt8.ofNat (48 + q / 1000), UInt8.ofNat (48 + q / 100 % 10), UInt8.ofNat (48 + q / 10 % 10), UInt8.ofNat (48 + q % 10)] := ⟨_, rfl⟩
                  have hl6 : L6.length ≤ 124 := by rw [hL6, List.length_append]; simp; omega
                  rw [← hL6] at ho6
                  have HL6 := Lib.hid hL6
                  obtain ⟨A6, c6, hv6⟩ := ownsRow_form ho6
                  subst hv6
                  clear hn6 hg6 hL6 ho5
                  refine Lib.hid ?_
                  go_wp2
                  go_ret
                  refine ⟨_, rfl, ?_, hb6⟩
                  have HEQ : L6 = l ++ [45] ++ [48, 120, 49] ++ (fracT ((normF 52 m0 e0).1 - 4503599627370496) ++ 112 :: expT (normF 52 m0 e0).2) := by
                    have hF3 : m - 4503599627370496 = F := by have := HF.out; omega
                    rw [HE.out]
                    simp only
                    rw [hF3, HFT.out, HFD.out, HX.out, dig4 (by omega) (by omega), HL6.out, HL5.out, HL4.out, HLr.out, HL3.out, HL2.out, HL1.out]
                    simp [List.append_assoc]
                  rw [← HEQ]
                  exact ho6
          · have hG0 : G ≠ 0 := by intro h; apply hX; rw [HI.out.1, h]; simp
            obtain ⟨j, Y, hj, k1, k2, k3, k4, k5, k6⟩ := fr_round hk13 HI.out.2.1 HI.out.1 hG0
            have qX : (X != 0) = true := by rw [bne_iff_ne]; exact hX
            have HR : Hid (Y = ((G % 16 ^ j * 16 ^ (16 - j) : Nat) : Int) ∧ G % 16 ^ j < 16 ^ j ∧ (pre ++ [hexc (G / 16 ^ j)]) ++ fracD j (G % 16 ^ j) = fracD 13 F) := Lib.hid ⟨k4, k5, by rw [← HI.out.2.2, k6]; simp⟩
            have k7 : IntKind.u64.wrap (X * 16) = Y := by rw [IntKind.wrap_u64]; exact k3
            obtain ⟨dd, hdd⟩ : ∃ dd : Int, dd = ((G / 16 ^ j : Nat) : Int) := ⟨_, rfl⟩
            have k8 := fun (W : World) => hex_u64 W hdd k2
            rw [← hdd] at k1
            have hjk : j + 1 = gk := hj.symm
            clear k2 k4 k5 k6 hdd hX hG0 HI hj
            go_wp2_with (at_builtin; refine wpList_append_own _ rfl (.tmp 100) (.tmp 106) 23 rfl B 5 i0 _ 1 1 Tryz.underlying23 hi0 hz0 hz1 hz2 rfl (by omega) _ Lr.length _ rfl (World.ownsRow.alloc howr _) ⟨wr.heap.size, 0, none⟩ 1 1 [_] rfl rfl (news_at rfl) (one_of1 rfl) (by unfold maxLen; omega) (by omega) (by simp; omega) ?_; intro v4 w4 hn4 hg4 _; refine Hid.out ?_)
            have ho4 := OwnB.app (m := [hexc (G / 16 ^ j)]) rfl (by rfl) hn4
            have hb4 : Below B w w4 := hbr.trans (grown_below howr (by omega) hg4)
            have hs4 := hb4.size
            obtain ⟨L4, hL4⟩ : ∃ L, L = Lr ++ [hexc (G / 16 ^ j)] := ⟨_, rfl⟩
            have hl4 : L4.length ≤ 119 := by rw [hL4, List.length_append]; simp; omega
            rw [← hL4] at ho4
            have HL4 := Lib.hid hL4
            obtain ⟨A4, c4, hv4⟩ := ownsRow_form ho4
            subst hv4
            clear hn4 hg4 hL4 howr
            refine Lib.hid ?_
            go_wp2_with fail
            go_roundg j
            case rel => exact ⟨G % 16 ^ j, Y, pre ++ [hexc (G / 16 ^ j)], rfl, HR, by omega, by simp; omega, by rw [← List.append_assoc, ← HLr.out, ← HL4.out]; exact ho4, hb4⟩
            case measure => omega
set_option maxRecDepth 100000 in
set_option maxHeartbeats 4000000 in
theorem fmtx_zneg (B : Nat) (v : Value) (l : List UInt8) (e0 : Int) (w : World) (hown : OwnB w B v l) (hB : B ≤ w.heap.size) (hl : l.length ≤ 100) :
    Calls Tryz.prog 294 #[v, .int .i64 (-1), .int .u8 120, .bool true, .int .u64 0, .int .i64 e0, .int .i64 52] w (AppPost B (l ++ [45] ++ [48, 120, 48, 112, 43, 48, 48]) w) := by
  obtain ⟨i0, hi0, hz0, hz1, hz2⟩ := info_parts Tryz.infoByte
  obtain ⟨A1, c1, rfl⟩ := ownsRow_form hown
  have KL := Lib.hid (fun (W : World) => lower_x W)
  have k22 : bits .and .u64 0 1 = 0 := by decide
  go_enter Tryz.func294, Tryz.ntmps294
  go_wp2
  go_loop [4, 5] (fun a b => a = .int .u64 0 ∧ b = .int .i64 0) (fun _ _ => 0)
  case atStart => exact ⟨rfl, rfl⟩
  case round =>
    obtain ⟨rfl, rfl⟩ := hrel
    go_wp2_with (at_builtin; refine wpList_append_own _ rfl (.tmp 75) (.tmp 76) 23 rfl B 5 i0 _ 1 1 Tryz.underlying23 hi0 hz0 hz1 hz2 rfl (by omega) _ l.length _ rfl (World.ownsRow.alloc hown _) ⟨w.heap.size, 0, none⟩ 1 1 [_] rfl rfl (news_at rfl) (one_of1 rfl) (by unfold maxLen; omega) (by omega) (by simp; omega) ?_; intro v1 w1 hn1 hg1 _; refine Hid.out ?_)
    have ho1 := OwnB.app (m := [45]) rfl (by rfl) hn1
    have hb1 : Below B w w1 := grown_below hown hB hg1
    have hs1 := hb1.size
    obtain ⟨L1, hL1⟩ : ∃ L, L = l ++ [45] := ⟨_, rfl⟩
    have hl1 : L1.length ≤ 101 := by rw [hL1, List.length_append]; simp; omega
    rw [← hL1] at ho1
    have HL1 := Lib.hid hL1
    obtain ⟨A1, c1, hv1⟩ := ownsRow_form ho1
    subst hv1
    clear hn1 hg1 hL1 hown
    refine Lib.hid ?_
    go_wp2_with (at_builtin; refine wpList_append_own _ rfl (.tmp 78) (.tmp 85) 23 rfl B 5 i0 _ 1 1 Tryz.underlying23 hi0 hz0 hz1 hz2 rfl (by omega) _ L1.length _ rfl (World.ownsRow.alloc ho1 _) ⟨w1.heap.size, 0, none⟩ 3 3 [_, _, _] rfl rfl (news_at rfl) one_three (by unfold maxLen; omega) (by omega) (by simp; omega) ?_; intro v2 w2 hn2 hg2 _; refine Hid.out ?_)
    have ho2 := OwnB.app (m := [48, 120, 48]) rfl (by rfl) hn2
    have hb2 : Below B w w2 := hb1.trans (grown_below ho1 (by omega) hg2)
    have hs2 := hb2.size
    obtain ⟨L2, hL2⟩ : ∃ L, L = L1 ++ [48, 120, 48] := ⟨_, rfl⟩
    have hl2 : L2.length ≤ 104 := by rw [hL2, List.length_append]; simp; omega
    rw [← hL2] at ho2
    have HL2 := Lib.hid hL2
    obtain ⟨A2, c2, hv2⟩ := ownsRow_form ho2
    subst hv2
    clear hn2 hg2 hL2 ho1
    refine Lib.hid ?_
    go_wp2_with fail
    refine (KL.out _).mono ?_
    rintro eL wL ⟨rfl, rfl⟩
    go_wp2_with (at_builtin; refine wpList_append_own _ rfl (.tmp 134) (.tmp 136) 23 rfl B 5 i0 _ 1 1 Tryz.underlying23 hi0 hz0 hz1 hz2 rfl (by omega) _ L2.length _ rfl (World.ownsRow.alloc ho2 _) ⟨w2.heap.size, 0, none⟩ 1 1 [_] rfl rfl (news_at rfl) (one_of1 rfl) (by unfold maxLen; omega) (by omega) (by simp; omega) ?_; intro v3 w3 hn3 hg3 _; refine Hid.out ?_)
    have ho3 := OwnB.app (m := [112]) rfl (by rfl) hn3
    have hb3 : Below B w w3 := hb2.trans (grown_below ho2 (by omega) hg3)
    have hs3 := hb3.size
    obtain ⟨L3, hL3⟩ : ∃ L, L = L2 ++ [112] := ⟨_, rfl⟩
    have hl3 : L3.length ≤ 105 := by rw [hL3, List.length_append]; simp; omega
    rw [← hL3] at ho3
    have HL3 := Lib.hid hL3
    obtain ⟨A3, c3, hv3⟩ := ownsRow_form ho3
    subst hv3
    clear hn3 hg3 hL3 ho2
    refine Lib.hid ?_
    go_wp2_with (at_builtin; refine wpList_append_own _ rfl (.tmp 142) (.tmp 144) 23 rfl B 5 i0 _ 1 1 Tryz.underlying23 hi0 hz0 hz1 hz2 rfl (by omega) _ L3.length _ rfl (World.ownsRow.alloc ho3 _) ⟨w3.heap.size, 0, none⟩ 1 1 [_] rfl rfl (news_at rfl) (one_of1 rfl) (by unfold maxLen; omega) (by omega) (by simp; omega) ?_; intro v4 w4 hn4 hg4 _; refine Hid.out ?_)
    have ho4 := OwnB.app (m := [43]) rfl (by rfl) hn4
    have hb4 : Below B w w4 := hb3.trans (grown_below ho3 (by omega) hg4)
    have hs4 := hb4.size
    obtain ⟨L4, hL4⟩ : ∃ L, L = L3 ++ [43] := ⟨_, rfl⟩
    have hl4 : L4.length ≤ 106 := by rw [hL4, List.length_append]; simp; omega
    rw [← hL4] at ho4
    have HL4 := Lib.hid hL4
    obtain ⟨A4, c4, hv4⟩ := ownsRow_form ho4
    subst hv4
    clear hn4 hg4 hL4 ho3
    refine Lib.hid ?_
    go_wp2_with (at_builtin; refine wpList_append_own _ rfl (.tmp 170) (.tmp 179) 23 rfl B 5 i0 _ 1 1 Tryz.underlying23 hi0 hz0 hz1 hz2 rfl (by omega) _ L4.length _ rfl (World.ownsRow.alloc ho4 _) ⟨w4.heap.size, 0, none⟩ 2 2 [_, _] rfl rfl (news_at rfl) (one_of2 rfl rfl) (by unfold maxLen; omega) (by omega) (by simp; omega) ?_; intro v5 w5 hn5 hg5 _; refine Hid.out ?_)
    have ho5 := OwnB.app (m := [48, 48]) rfl (by rfl) hn5
    have hb5 : Below B w w5 := hb4.trans (grown_below ho4 (by omega) hg5)
    have hs5 := hb5.size
    obtain ⟨L5, hL5⟩ : ∃ L, L = L4 ++ [48, 48] := ⟨_, rfl⟩
    have hl5 : L5.length ≤ 108 := by rw [hL5, List.length_append]; simp; omega
    rw [← hL5] at ho5
    have HL5 := Lib.hid hL5
    obtain ⟨A5, c5, hv5⟩ := ownsRow_form ho5
    subst hv5
    clear hn5 hg5 hL5 ho4
    refine Lib.hid ?_
    go_wp2
    go_ret
    refine ⟨_, rfl, ?_, hb5⟩
    have HEQ : L5 = l ++ [45] ++ [48, 120, 48, 112, 43, 48, 48] := by
      rw [HL5.out, HL4.out, HL3.out, HL2.out, HL1.out]
      simp [List.append_assoc]
    rw [← HEQ]
    exact ho5
set_option maxRecDepth 100000 in
set_option maxHeartbeats 4000000 in
theorem fmtx_zpos (B : Nat) (v : Value) (l : List UInt8) (e0 : Int) (w : World) (hown : OwnB w B v l) (hB : B ≤ w.heap.size) (hl : l.length ≤ 100) :
    Calls Tryz.prog 294 #[v, .int .i64 (-1), .int .u8 120, .bool false, .int .u64 0, .int .i64 e0, .int .i64 52] w (AppPost B (l ++ [] ++ [48, 120, 48, 112, 43, 48, 48]) w) := by
  obtain ⟨i0, hi0, hz0, hz1, hz2⟩ := info_parts Tryz.infoByte
  obtain ⟨A1, c1, rfl⟩ := ownsRow_form hown
  have KL := Lib.hid (fun (W : World) => lower_x W)
  have k22 : bits .and .u64 0 1 = 0 := by decide
  go_enter Tryz.func294, Tryz.ntmps294
  go_wp2
  go_loop [4, 5] (fun a b => a = .int .u64 0 ∧ b = .int .i64 0) (fun _ _ => 0)
  case atStart => exact ⟨rfl, rfl⟩
  case round =>
    obtain ⟨rfl, rfl⟩ := hrel
    go_wp2_with (at_builtin; refine wpList_append_own _ rfl (.tmp 78) (.tmp 85) 23 rfl B 5 i0 _ 1 1 Tryz.underlying23 hi0 hz0 hz1 hz2 rfl (by omega) _ l.length _ rfl (World.ownsRow.alloc hown _) ⟨w.heap.size, 0, none⟩ 3 3 [_, _, _] rfl rfl (news_at rfl) one_three (by unfold maxLen; omega) (by omega) (by simp; omega) ?_; intro v1 w1 hn1 hg1 _; refine Hid.out ?_)
    have ho1 := OwnB.app (m := [48, 120, 48]) rfl (by rfl) hn1
    have hb1 : Below B w w1 := grown_below hown hB hg1
    have hs1 := hb1.size
    obtain ⟨L1, hL1⟩ : ∃ L, L = l ++ [48, 120, 48] := ⟨_, rfl⟩
    have hl1 : L1.length ≤ 103 := by rw [hL1, List.length_append]; simp; omega
    rw [← hL1] at ho1
    have HL1 := Lib.hid hL1
    obtain ⟨A1, c1, hv1⟩ := ownsRow_form ho1
    subst hv1
    clear hn1 hg1 hL1 hown
    refine Lib.hid ?_
    go_wp2_with fail
    refine (KL.out _).mono ?_
    rintro eL wL ⟨rfl, rfl⟩
    go_wp2_with (at_builtin; refine wpList_append_own _ rfl (.tmp 134) (.tmp 136) 23 rfl B 5 i0 _ 1 1 Tryz.underlying23 hi0 hz0 hz1 hz2 rfl (by omega) _ L1.length _ rfl (World.ownsRow.alloc ho1 _) ⟨w1.heap.size, 0, none⟩ 1 1 [_] rfl rfl (news_at rfl) (one_of1 rfl) (by unfold maxLen; omega) (by omega) (by simp; omega) ?_; intro v2 w2 hn2 hg2 _; refine Hid.out ?_)
    have ho2 := OwnB.app (m := [112]) rfl (by rfl) hn2
    have hb2 : Below B w w2 := hb1.trans (grown_below ho1 (by omega) hg2)
    have hs2 := hb2.size
    obtain ⟨L2, hL2⟩ : ∃ L, L = L1 ++ [112] := ⟨_, rfl⟩
    have hl2 : L2.length ≤ 104 := by rw [hL2, List.length_append]; simp; omega
    rw [← hL2] at ho2
    have HL2 := Lib.hid hL2
    obtain ⟨A2, c2, hv2⟩ := ownsRow_form ho2
    subst hv2
    clear hn2 hg2 hL2 ho1
    refine Lib.hid ?_
    go_wp2_with (at_builtin; refine wpList_append_own _ rfl (.tmp 142) (.tmp 144) 23 rfl B 5 i0 _ 1 1 Tryz.underlying23 hi0 hz0 hz1 hz2 rfl (by omega) _ L2.length _ rfl (World.ownsRow.alloc ho2 _) ⟨w2.heap.size, 0, none⟩ 1 1 [_] rfl rfl (news_at rfl) (one_of1 rfl) (by unfold maxLen; omega) (by omega) (by simp; omega) ?_; intro v3 w3 hn3 hg3 _; refine Hid.out ?_)
    have ho3 := OwnB.app (m := [43]) rfl (by rfl) hn3
    have hb3 : Below B w w3 := hb2.trans (grown_below ho2 (by omega) hg3)
    have hs3 := hb3.size
    obtain ⟨L3, hL3⟩ : ∃ L, L = L2 ++ [43] := ⟨_, rfl⟩
    have hl3 : L3.length ≤ 105 := by rw [hL3, List.length_append]; simp; omega
    rw [← hL3] at ho3
    have HL3 := Lib.hid hL3
    obtain ⟨A3, c3, hv3⟩ := ownsRow_form ho3
    subst hv3
    clear hn3 hg3 hL3 ho2
    refine Lib.hid ?_
    go_wp2_with (at_builtin; refine wpList_append_own _ rfl (.tmp 170) (.tmp 179) 23 rfl B 5 i0 _ 1 1 Tryz.underlying23 hi0 hz0 hz1 hz2 rfl (by omega) _ L3.length _ rfl (World.ownsRow.alloc ho3 _) ⟨w3.heap.size, 0, none⟩ 2 2 [_, _] rfl rfl (news_at rfl) (one_of2 rfl rfl) (by unfold maxLen; omega) (by omega) (by simp; omega) ?_; intro v4 w4 hn4 hg4 _; refine Hid.out ?_)
    have ho4 := OwnB.app (m := [48, 48]) rfl (by rfl) hn4
    have hb4 : Below B w w4 := hb3.trans (grown_below ho3 (by omega) hg4)
    have hs4 := hb4.size
    obtain ⟨L4, hL4⟩ : ∃ L, L = L3 ++ [48, 48] := ⟨_, rfl⟩
    have hl4 : L4.length ≤ 107 := by rw [hL4, List.length_append]; simp; omega
    rw [← hL4] at ho4
    have HL4 := Lib.hid hL4
    obtain ⟨A4, c4, hv4⟩ := ownsRow_form ho4
    subst hv4
    clear hn4 hg4 hL4 ho3
    refine Lib.hid ?_
    go_wp2
    go_ret
    refine ⟨_, rfl, ?_, hb4⟩
    have HEQ : L4 = l ++ [] ++ [48, 120, 48, 112, 43, 48, 48] := by
      rw [HL4.out, HL3.out, HL2.out, HL1.out]
      simp [List.append_assoc]
    rw [← HEQ]
    exact ho4
end Go.Proofs.YtobpkelblpdajaaGreatDoor
