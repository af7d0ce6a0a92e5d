/- Walk: the document's Float. -/
import Derived.Test.YtobpkelblpdajaaGreatDoorPR27
import Derived.Outline
set_option linter.unusedVariables false
set_option linter.unusedSimpArgs false
set_option linter.unusedSectionVars false
namespace Go.Proofs.YtobpkelblpdajaaGreatDoor
open Go Go.RowKit
theorem text_end {s : ByteArray} {l : List UInt8} (h : s.data.toList = l) : Ending.returned (.string s) = .returned (.string ⟨l.toArray⟩) := by
  subst h
  rfl
theorem strip_last {s : ByteArray} (h : 0 < s.size) : s.data.toList = (s.extract 0 (s.size - 1)).data.toList ++ [s[s.size - 1]'(by omega)] := by
  have h1 : s.data.size = s.size := rfl
  apply List.ext_getElem
  · simp [ByteArray.data_extract]; omega
  · intro i hi hj
    by_cases hlt : i < s.size - 1
    · rw [List.getElem_append_left (by simp [ByteArray.data_extract]; omega)]
      simp [ByteArray.data_extract]
    · have hi' : i < s.size := by simpa using hi
      obtain rfl : i = s.size - 1 := by omega
      rw [List.getElem_append_right (by simp [ByteArray.data_extract])]
      simp
      rfl
theorem strip_yes {s : ByteArray} (h : 0 < s.size) (hl : (s[s.size - 1]'(by omega)).toNat = 48) : stripZ (s.extract 0 (s.size - 1)).data.toList = stripZ s.data.toList := by
  have h48 : s[s.size - 1]'(by omega) = 48 := UInt8.toNat_inj.1 hl
  rw [strip_last h, strip_snoc, if_pos h48]
theorem strip_no {s : ByteArray} (h : 0 < s.size) (hl : ¬ (s[s.size - 1]'(by omega)).toNat = 48) : stripZ s.data.toList = s.data.toList := by
  have h48 : ¬ s[s.size - 1]'(by omega) = 48 := fun e => hl (by rw [e]; rfl)
  have := strip_snoc (s.extract 0 (s.size - 1)).data.toList (s[s.size - 1]'(by omega))
  rw [if_neg h48, ← strip_last h] at this
  exact this
theorem flt_odd {f e m : Nat} (he : e = f / 4503599627370496 % 2048) (hm : m = f % 4503599627370496) (h : e = 2047) : fltT f = if m = 0 then (if 9223372036854775808 ≤ f then 45 else 43) :: [105, 110, 102] else [110, 97, 110, 40] ++ (hexN 16 f ++ [41]) := by
  subst he; subst hm; unfold fltT; rw [if_pos h]
theorem flt_even {f e m : Nat} (he : e = f / 4503599627370496 % 2048) (hm : m = f % 4503599627370496) (h : e ≠ 2047) : fltT f = (if 9223372036854775808 ≤ f then [45] else []) ++ (48 :: 120 :: bodyT e m) := by
  subst he; subst hm; unfold fltT; rw [if_neg h]
theorem bodyT_zero {e m : Nat} (h1 : e = 0) (h2 : m = 0) : bodyT e m = [48, 112, 43, 48, 48] := by unfold bodyT; rw [if_pos ⟨h1, h2⟩]
theorem bodyT_norm {e m : Nat} (h1 : e ≠ 0) : bodyT e m = 49 :: (fracT m ++ 112 :: expT ((e : Int) - 1023)) := by
  unfold bodyT
  rw [if_neg (fun h => h1 h.1)]
  simp only [if_neg h1]
  rw [show m + 4503599627370496 - 4503599627370496 = m by omega]
theorem bodyT_sub {e m : Nat} (h1 : e = 0) (h2 : m ≠ 0) : bodyT e m = 49 :: (fracT ((normF 52 m 1).1 - 4503599627370496) ++ 112 :: expT ((normF 52 m 1).2 - 1023)) := by
  unfold bodyT
  rw [if_neg (fun h => h2 h.2)]
  simp only [if_pos h1]
theorem fracD_ne {F : Nat} (h : F ≠ 0) : fracD 13 F ≠ [] := by rw [fracD, if_neg h]; simp
def strLen (v : Value) : Nat := match v with | .string s => s.size | _ => 0
def bodyG (sg : Bool) (F : Nat) (x : Int) : List UInt8 := (if sg = true then [45] else []) ++ 48 :: 120 :: 49 :: (fracT F ++ 112 :: expT x)
set_option maxRecDepth 100000 in
set_option maxHeartbeats 4000000 in
theorem rfloat_odd (f : Nat) (w : World) (hb : f < 18446744073709551616) (e m : Nat) (he : e = f / 4503599627370496 % 2048) (hm : m = f % 4503599627370496) (ho : e = 2047 ∨ (e = 0 ∧ m = 0)) : Calls Tryz.prog 39 #[.float .f64 f] w (TextPost (fltT f) w) := by
  have k0 := fun (w : World) => run_f64bits f w
  have ke : (f : Int) / 4503599627370496 % 2048 = (e : Int) := by omega
  have km : (f : Int) % 4503599627370496 = (m : Int) := by omega
  have hsg : ((f : Int) / 9223372036854775808 == 1) = decide (9223372036854775808 ≤ f) := by
    rw [Bool.eq_iff_iff, beq_iff_eq, decide_eq_true_iff]; omega
  obtain ⟨sg, hs⟩ : ∃ sg, sg = decide (9223372036854775808 ≤ f) := ⟨_, rfl⟩
  rw [← hs] at hsg
  have HS := Lib.hid hs
  clear hs
  have hq1 : (1 : Int) ≤ 16 := by decide
  by_cases h1 : e = 2047
  · have g1 : (e : Int) = 2047 := by omega
    by_cases h2 : m = 0
    · have HT : Hid (fltT f = (if sg = true then 45 else 43) :: [105, 110, 102]) := Lib.hid (by rw [flt_odd he hm h1, if_pos h2, HS.out]; simp)
      have g2 : ¬ (0 < (m : Int)) := by omega
      clear he hm ho
      cases sg
      · go_enter Tryz.func39, Tryz.ntmps39
        go_wp2_with fail
        go_ret
        exact ⟨by rw [HT.out]; rfl, Below.refl _ _⟩
      · go_enter Tryz.func39, Tryz.ntmps39
        go_wp2_with fail
        go_ret
        exact ⟨by rw [HT.out]; rfl, Below.refl _ _⟩
    · have HT : Hid (fltT f = [110, 97, 110, 40] ++ (hexN 16 f ++ [41])) := Lib.hid (by rw [flt_odd he hm h1, if_neg h2])
      have g2 : 0 < (m : Int) := by omega
      have HD := Lib.hid (digits_any f 16 (by decide) (by decide) w)
      have hlen : (hexN 16 f).length = 16 := hexN_length 16 f
      generalize hexN 16 f = l at *
      have s1 : (⟨l.toArray⟩ : ByteArray).size = l.length := by simp [ByteArray.size]
      clear he hm ho
      go_enter Tryz.func39, Tryz.ntmps39
      go_wp2_with fail
      refine HD.out.mono ?_
      rintro e w1 ⟨rfl, hb1⟩
      go_wp2_with fail
      go_ret
      exact ⟨by rw [HT.out]; exact text_end (by simp [ByteArray.data_append]), hb1⟩
  · obtain ⟨h2, h3⟩ := ho.resolve_left h1
    have HT : Hid (fltT f = (if sg = true then [45] else []) ++ [48, 120, 48, 112, 43, 48, 48]) := Lib.hid (by rw [flt_even he hm h1, bodyT_zero h2 h3, HS.out]; simp)
    have g1 : (e : Int) = 0 := by omega
    have g2 : (m : Int) = 0 := by omega
    clear he hm ho
    cases sg
    · go_enter Tryz.func39, Tryz.ntmps39
      go_wp2_with fail
      go_ret
      exact ⟨by rw [HT.out]; exact text_end (by simp [ByteArray.data_append]), Below.refl _ _⟩
    · go_enter Tryz.func39, Tryz.ntmps39
      go_wp2_with fail
      go_ret
      exact ⟨by rw [HT.out]; exact text_end (by simp [ByteArray.data_append]), Below.refl _ _⟩
set_option maxRecDepth 100000 in
set_option maxHeartbeats 4000000 in
theorem rfloat_norm (f : Nat) (w : World) (hb : f < 18446744073709551616) (e m : Nat) (he : e = f / 4503599627370496 % 2048) (hm : m = f % 4503599627370496) (h1 : e ≠ 2047) (h2 : e ≠ 0) : Calls Tryz.prog 39 #[.float .f64 f] w (TextPost (fltT f) w) := by
  have k0 := fun (w : World) => run_f64bits f w
  have ke : (f : Int) / 4503599627370496 % 2048 = (e : Int) := by omega
  have km : (f : Int) % 4503599627370496 = (m : Int) := by omega
  have hsg : ((f : Int) / 9223372036854775808 == 1) = decide (9223372036854775808 ≤ f) := by
    rw [Bool.eq_iff_iff, beq_iff_eq, decide_eq_true_iff]; omega
  obtain ⟨sg, hs⟩ : ∃ sg, sg = decide (9223372036854775808 ≤ f) := ⟨_, rfl⟩
  rw [← hs] at hsg
  have HS := Lib.hid hs
  clear hs
  obtain ⟨x, hx0⟩ : ∃ x : Int, x = (e : Int) - 1023 := ⟨_, rfl⟩
  obtain ⟨F, hF0⟩ : ∃ F : Nat, F = m := ⟨_, rfl⟩
  have hF1 : F < 4503599627370496 := by omega
  have he1 : e < 2048 := by omega
  have HT : Hid (fltT f = bodyG sg F x) := Lib.hid (by
    rw [flt_even he hm h1, bodyT_norm h2]
    unfold bodyG
    rw [HS.out, hx0, hF0]
    simp)
  have g1 : ¬ ((e : Int) = 2047) := by omega
  have g2 : ¬ ((e : Int) = 0) := by omega
  have g1b : ((e : Int) == 2047) = false := by rw [beq_eq_false_iff_ne]; exact g1
  have g2b : ((e : Int) == 0) = false := by rw [beq_eq_false_iff_ne]; exact g2
  have HDC := Lib.hid (fun (n : Nat) (z : Int) (W : World) (hz : z = n) (hn : n < 18446744073709551616) => (by rw [hz]; exact dec_any n hn W : Calls Tryz.prog 76 #[.int .u64 z] W (TextPost (Lib.decDigits n) W)))
  have HD13 := Lib.hid (fun (n : Nat) (z : Int) (W : World) (hz : z = n) => (by rw [hz]; exact digits_any n 13 (by decide) (by decide) W : Calls Tryz.prog 75 #[.int .u64 z, .int .i64 13] W (TextPost (hexN 13 n) W)))
  clear he hm HS
  subst hF0
  cases sg
  · go_enter Tryz.func39, Tryz.ntmps39
    by_cases hF : F = 0
    · have g3 : ¬ (0 < (F : Int)) := by omega
      have HFR : Hid (fracT F = []) := Lib.hid (by unfold fracT; rw [if_pos hF])
      have HF0 := Lib.hid hF
      clear hF
      by_cases hx : x < 0
      · by_cases h10 : x.natAbs < 10
        · have p1 : ((e : Int) - 1023) < 0 := by omega
          have p2 : (-((e : Int) - 1023) < 10) := by omega
          go_wp2_with fail
          refine (HDC.out x.natAbs _ _ (by omega) (by omega)).mono ?_
          rintro e9 w9 ⟨rfl, hb9⟩
          have hl9 : (Lib.decDigits x.natAbs).length ≤ 20 := by rw [Lib.decDigits_length]; exact Lib.nDigits_le20 _ (by omega)
          have HEX : Hid (expT x = 45 :: ([48] ++ Lib.decDigits x.natAbs)) := Lib.hid (by unfold expT; rw [if_pos (by omega), if_pos (by omega)])
          generalize Lib.decDigits x.natAbs = L9 at *
          have s9 : (⟨L9.toArray⟩ : ByteArray).size = L9.length := by simp [ByteArray.size]
          go_wp2_with fail
          go_ret
          exact ⟨by rw [HT.out]; unfold bodyG; rw [HEX.out, HFR.out]; exact text_end (by simp [ByteArray.data_append]), hb9⟩
        · have p1 : ((e : Int) - 1023) < 0 := by omega
          have p2 : ¬ (-((e : Int) - 1023) < 10) := by omega
          go_wp2_with fail
          refine (HDC.out x.natAbs _ _ (by omega) (by omega)).mono ?_
          rintro e9 w9 ⟨rfl, hb9⟩
          have hl9 : (Lib.decDigits x.natAbs).length ≤ 20 := by rw [Lib.decDigits_length]; exact Lib.nDigits_le20 _ (by omega)
          have HEX : Hid (expT x = 45 :: ([] ++ Lib.decDigits x.natAbs)) := Lib.hid (by unfold expT; rw [if_pos (by omega), if_neg (by omega)])
          generalize Lib.decDigits x.natAbs = L9 at *
          have s9 : (⟨L9.toArray⟩ : ByteArray).size = L9.length := by simp [ByteArray.size]
          go_wp2_with fail
          go_ret
          exact ⟨by rw [HT.out]; unfold bodyG; rw [HEX.out, HFR.out]; exact text_end (by simp [ByteArray.data_append]), hb9⟩
      · by_cases h10 : x.natAbs < 10
        · have p1 : ¬ (((e : Int) - 1023) < 0) := by omega
          have p2 : (((e : Int) - 1023) < 10) := by omega
          go_wp2_with fail
          refine (HDC.out x.natAbs _ _ (by omega) (by omega)).mono ?_
          rintro e9 w9 ⟨rfl, hb9⟩
          have hl9 : (Lib.decDigits x.natAbs).length ≤ 20 := by rw [Lib.decDigits_length]; exact Lib.nDigits_le20 _ (by omega)
          have HEX : Hid (expT x = 43 :: ([48] ++ Lib.decDigits x.natAbs)) := Lib.hid (by unfold expT; rw [if_neg (by omega), if_pos (by omega)])
          generalize Lib.decDigits x.natAbs = L9 at *
          have s9 : (⟨L9.toArray⟩ : ByteArray).size = L9.length := by simp [ByteArray.size]
          go_wp2_with fail
          go_ret
          exact ⟨by rw [HT.out]; unfold bodyG; rw [HEX.out, HFR.out]; exact text_end (by simp [ByteArray.data_append]), hb9⟩
        · have p1 : ¬ (((e : Int) - 1023) < 0) := by omega
          have p2 : ¬ (((e : Int) - 1023) < 10) := by omega
          go_wp2_with fail
          refine (HDC.out x.natAbs _ _ (by omega) (by omega)).mono ?_
          rintro e9 w9 ⟨rfl, hb9⟩
          have hl9 : (Lib.decDigits x.natAbs).length ≤ 20 := by rw [Lib.decDigits_length]; exact Lib.nDigits_le20 _ (by omega)
          have HEX : Hid (expT x = 43 :: ([] ++ Lib.decDigits x.natAbs)) := Lib.hid (by unfold expT; rw [if_neg (by omega), if_neg (by omega)])
          generalize Lib.decDigits x.natAbs = L9 at *
          have s9 : (⟨L9.toArray⟩ : ByteArray).size = L9.length := by simp [ByteArray.size]
          go_wp2_with fail
          go_ret
          exact ⟨by rw [HT.out]; unfold bodyG; rw [HEX.out, HFR.out]; exact text_end (by simp [ByteArray.data_append]), hb9⟩

    · have g3 : 0 < (F : Int) := by omega
      have HNE : Hid (fracD 13 F ≠ []) := Lib.hid (fracD_ne hF)
      have HFR0 : Hid (fracT F = 46 :: fracD 13 F) := Lib.hid (by unfold fracT; rw [if_neg hF])
      have HST : Hid (stripZ (hexN 13 F) = fracD 13 F) := Lib.hid (by rw [strip_hexN, Nat.mod_eq_of_lt (by rw [show 16 ^ 13 = 4503599627370496 from by decide]; first | omega | exact HF1.out)])
      clear hF
      go_wp2_with fail
      refine (HD13.out F _ _ (by omega)).mono ?_
      rintro e1 w1 ⟨rfl, hb1⟩
      have hlen : (hexN 13 F).length = 13 := hexN_length 13 F
      generalize hexN 13 F = l13 at *
      go_wp2_with fail
      go_loopw [8] (fun v wr => ∃ s : ByteArray, v = .string s ∧ s.size ≤ 13 ∧ Hid (stripZ s.data.toList = fracD 13 F) ∧ w1 = wr) (fun v _ => strLen v)
      case atStart => exact ⟨_, rfl, by simp [ByteArray.size]; omega, HST, rfl⟩
      case round =>
        obtain ⟨s, rfl, hs13, HX, rfl⟩ := hrel
        have hs0 : 0 < s.size := by
          by_cases h : 0 < s.size
          · exact h
          · exfalso
            have h1 : s.data.toList = [] := List.eq_nil_of_length_eq_zero (by rw [size_list]; omega)
            have h2 := HX.out
            rw [h1] at h2
            exact HNE.out h2.symm
        by_cases h48 : (s[s.size - 1]'(by omega)).toNat = 48
        · have HX2 : Hid (stripZ (s.extract 0 (s.size - 1)).data.toList = fracD 13 F) := Lib.hid (by rw [strip_yes hs0 h48, HX.out])
          have hsz : (s.extract 0 (s.size - 1)).size = s.size - 1 := by simp [ByteArray.size_extract]; try omega
          go_wp2
          refine ⟨⟨s.extract 0 (s.size - 1), by first | rfl | simp, by omega, HX2, by first | rfl | trivial⟩, ?_⟩
          simp [strLen]
          omega
        · have HFR : Hid (fracT F = 46 :: s.data.toList) := Lib.hid (by rw [HFR0.out, ← HX.out, strip_no hs0 h48])
          clear HX
          by_cases hx : x < 0
          · by_cases h10 : x.natAbs < 10
            · have p1 : ((e : Int) - 1023) < 0 := by omega
              have p2 : (-((e : Int) - 1023) < 10) := by omega
              go_wp2_with fail
              refine (HDC.out x.natAbs _ _ (by omega) (by omega)).mono ?_
              rintro e9 w9 ⟨rfl, hb9⟩
              have hl9 : (Lib.decDigits x.natAbs).length ≤ 20 := by rw [Lib.decDigits_length]; exact Lib.nDigits_le20 _ (by omega)
              have HEX : Hid (expT x = 45 :: ([48] ++ Lib.decDigits x.natAbs)) := Lib.hid (by unfold expT; rw [if_pos (by omega), if_pos (by omega)])
              generalize Lib.decDigits x.natAbs = L9 at *
              have s9 : (⟨L9.toArray⟩ : ByteArray).size = L9.length := by simp [ByteArray.size]
              go_wp2_with fail
              go_ret
              exact ⟨by rw [HT.out]; unfold bodyG; rw [HEX.out, HFR.out]; exact text_end (by simp [ByteArray.data_append]), hb1.trans (hb9.mono hb1.size)⟩
            · have p1 : ((e : Int) - 1023) < 0 := by omega
              have p2 : ¬ (-((e : Int) - 1023) < 10) := by omega
              go_wp2_with fail
              refine (HDC.out x.natAbs _ _ (by omega) (by omega)).mono ?_
              rintro e9 w9 ⟨rfl, hb9⟩
              have hl9 : (Lib.decDigits x.natAbs).length ≤ 20 := by rw [Lib.decDigits_length]; exact Lib.nDigits_le20 _ (by omega)
              have HEX : Hid (expT x = 45 :: ([] ++ Lib.decDigits x.natAbs)) := Lib.hid (by unfold expT; rw [if_pos (by omega), if_neg (by omega)])
              generalize Lib.decDigits x.natAbs = L9 at *
              have s9 : (⟨L9.toArray⟩ : ByteArray).size = L9.length := by simp [ByteArray.size]
              go_wp2_with fail
              go_ret
              exact ⟨by rw [HT.out]; unfold bodyG; rw [HEX.out, HFR.out]; exact text_end (by simp [ByteArray.data_append]), hb1.trans (hb9.mono hb1.size)⟩
          · by_cases h10 : x.natAbs < 10
            · have p1 : ¬ (((e : Int) - 1023) < 0) := by omega
              have p2 : (((e : Int) - 1023) < 10) := by omega
              go_wp2_with fail
              refine (HDC.out x.natAbs _ _ (by omega) (by omega)).mono ?_
              rintro e9 w9 ⟨rfl, hb9⟩
              have hl9 : (Lib.decDigits x.natAbs).length ≤ 20 := by rw [Lib.decDigits_length]; exact Lib.nDigits_le20 _ (by omega)
              have HEX : Hid (expT x = 43 :: ([48] ++ Lib.decDigits x.natAbs)) := Lib.hid (by unfold expT; rw [if_neg (by omega), if_pos (by omega)])
              generalize Lib.decDigits x.natAbs = L9 at *
              have s9 : (⟨L9.toArray⟩ : ByteArray).size = L9.length := by simp [ByteArray.size]
              go_wp2_with fail
              go_ret
              exact ⟨by rw [HT.out]; unfold bodyG; rw [HEX.out, HFR.out]; exact text_end (by simp [ByteArray.data_append]), hb1.trans (hb9.mono hb1.size)⟩
            · have p1 : ¬ (((e : Int) - 1023) < 0) := by omega
              have p2 : ¬ (((e : Int) - 1023) < 10) := by omega
              go_wp2_with fail
              refine (HDC.out x.natAbs _ _ (by omega) (by omega)).mono ?_
              rintro e9 w9 ⟨rfl, hb9⟩
              have hl9 : (Lib.decDigits x.natAbs).length ≤ 20 := by rw [Lib.decDigits_length]; exact Lib.nDigits_le20 _ (by omega)
              have HEX : Hid (expT x = 43 :: ([] ++ Lib.decDigits x.natAbs)) := Lib.hid (by unfold expT; rw [if_neg (by omega), if_neg (by omega)])
              generalize Lib.decDigits x.natAbs = L9 at *
              have s9 : (⟨L9.toArray⟩ : ByteArray).size = L9.length := by simp [ByteArray.size]
              go_wp2_with fail
              go_ret
              exact ⟨by rw [HT.out]; unfold bodyG; rw [HEX.out, HFR.out]; exact text_end (by simp [ByteArray.data_append]), hb1.trans (hb9.mono hb1.size)⟩
  · go_enter Tryz.func39, Tryz.ntmps39
    by_cases hF : F = 0
    · have g3 : ¬ (0 < (F : Int)) := by omega
      have HFR : Hid (fracT F = []) := Lib.hid (by unfold fracT; rw [if_pos hF])
      have HF0 := Lib.hid hF
      clear hF
      by_cases hx : x < 0
      · by_cases h10 : x.natAbs < 10
        · have p1 : ((e : Int) - 1023) < 0 := by omega
          have p2 : (-((e : Int) - 1023) < 10) := by omega
          go_wp2_with fail
          refine (HDC.out x.natAbs _ _ (by omega) (by omega)).mono ?_
          rintro e9 w9 ⟨rfl, hb9⟩
          have hl9 : (Lib.decDigits x.natAbs).length ≤ 20 := by rw [Lib.decDigits_length]; exact Lib.nDigits_le20 _ (by omega)
          have HEX : Hid (expT x = 45 :: ([48] ++ Lib.decDigits x.natAbs)) := Lib.hid (by unfold expT; rw [if_pos (by omega), if_pos (by omega)])
          generalize Lib.decDigits x.natAbs = L9 at *
          have s9 : (⟨L9.toArray⟩ : ByteArray).size = L9.length := by simp [ByteArray.size]
          go_wp2_with fail
          go_ret
          exact ⟨by rw [HT.out]; unfold bodyG; rw [HEX.out, HFR.out]; exact text_end (by simp [ByteArray.data_append]), hb9⟩
        · have p1 : ((e : Int) - 1023) < 0 := by omega
          have p2 : ¬ (-((e : Int) - 1023) < 10) := by omega
          go_wp2_with fail
          refine (HDC.out x.natAbs _ _ (by omega) (by omega)).mono ?_
          rintro e9 w9 ⟨rfl, hb9⟩
          have hl9 : (Lib.decDigits x.natAbs).length ≤ 20 := by rw [Lib.decDigits_length]; exact Lib.nDigits_le20 _ (by omega)
          have HEX : Hid (expT x = 45 :: ([] ++ Lib.decDigits x.natAbs)) := Lib.hid (by unfold expT; rw [if_pos (by omega), if_neg (by omega)])
          generalize Lib.decDigits x.natAbs = L9 at *
          have s9 : (⟨L9.toArray⟩ : ByteArray).size = L9.length := by simp [ByteArray.size]
          go_wp2_with fail
          go_ret
          exact ⟨by rw [HT.out]; unfold bodyG; rw [HEX.out, HFR.out]; exact text_end (by simp [ByteArray.data_append]), hb9⟩
      · by_cases h10 : x.natAbs < 10
        · have p1 : ¬ (((e : Int) - 1023) < 0) := by omega
          have p2 : (((e : Int) - 1023) < 10) := by omega
          go_wp2_with fail
          refine (HDC.out x.natAbs _ _ (by omega) (by omega)).mono ?_
          rintro e9 w9 ⟨rfl, hb9⟩
          have hl9 : (Lib.decDigits x.natAbs).length ≤ 20 := by rw [Lib.decDigits_length]; exact Lib.nDigits_le20 _ (by omega)
          have HEX : Hid (expT x = 43 :: ([48] ++ Lib.decDigits x.natAbs)) := Lib.hid (by unfold expT; rw [if_neg (by omega), if_pos (by omega)])
          generalize Lib.decDigits x.natAbs = L9 at *
          have s9 : (⟨L9.toArray⟩ : ByteArray).size = L9.length := by simp [ByteArray.size]
          go_wp2_with fail
          go_ret
          exact ⟨by rw [HT.out]; unfold bodyG; rw [HEX.out, HFR.out]; exact text_end (by simp [ByteArray.data_append]), hb9⟩
        · have p1 : ¬ (((e : Int) - 1023) < 0) := by omega
          have p2 : ¬ (((e : Int) - 1023) < 10) := by omega
          go_wp2_with fail
          refine (HDC.out x.natAbs _ _ (by omega) (by omega)).mono ?_
          rintro e9 w9 ⟨rfl, hb9⟩
          have hl9 : (Lib.decDigits x.natAbs).length ≤ 20 := by rw [Lib.decDigits_length]; exact Lib.nDigits_le20 _ (by omega)
          have HEX : Hid (expT x = 43 :: ([] ++ Lib.decDigits x.natAbs)) := Lib.hid (by unfold expT; rw [if_neg (by omega), if_neg (by omega)])
          generalize Lib.decDigits x.natAbs = L9 at *
          have s9 : (⟨L9.toArray⟩ : ByteArray).size = L9.length := by simp [ByteArray.size]
          go_wp2_with fail
          go_ret
          exact ⟨by rw [HT.out]; unfold bodyG; rw [HEX.out, HFR.out]; exact text_end (by simp [ByteArray.data_append]), hb9⟩

    · have g3 : 0 < (F : Int) := by omega
      have HNE : Hid (fracD 13 F ≠ []) := Lib.hid (fracD_ne hF)
      have HFR0 : Hid (fracT F = 46 :: fracD 13 F) := Lib.hid (by unfold fracT; rw [if_neg hF])
      have HST : Hid (stripZ (hexN 13 F) = fracD 13 F) := Lib.hid (by rw [strip_hexN, Nat.mod_eq_of_lt (by rw [show 16 ^ 13 = 4503599627370496 from by decide]; first | omega | exact HF1.out)])
      clear hF
      go_wp2_with fail
      refine (HD13.out F _ _ (by omega)).mono ?_
      rintro e1 w1 ⟨rfl, hb1⟩
      have hlen : (hexN 13 F).length = 13 := hexN_length 13 F
      generalize hexN 13 F = l13 at *
      go_wp2_with fail
      go_loopw [8] (fun v wr => ∃ s : ByteArray, v = .string s ∧ s.size ≤ 13 ∧ Hid (stripZ s.data.toList = fracD 13 F) ∧ w1 = wr) (fun v _ => strLen v)
      case atStart => exact ⟨_, rfl, by simp [ByteArray.size]; omega, HST, rfl⟩
      case round =>
        obtain ⟨s, rfl, hs13, HX, rfl⟩ := hrel
        have hs0 : 0 < s.size := by
          by_cases h : 0 < s.size
          · exact h
          · exfalso
            have h1 : s.data.toList = [] := List.eq_nil_of_length_eq_zero (by rw [size_list]; omega)
            have h2 := HX.out
            rw [h1] at h2
            exact HNE.out h2.symm
        by_cases h48 : (s[s.size - 1]'(by omega)).toNat = 48
        · have HX2 : Hid (stripZ (s.extract 0 (s.size - 1)).data.toList = fracD 13 F) := Lib.hid (by rw [strip_yes hs0 h48, HX.out])
          have hsz : (s.extract 0 (s.size - 1)).size = s.size - 1 := by simp [ByteArray.size_extract]; try omega
          go_wp2
          refine ⟨⟨s.extract 0 (s.size - 1), by first | rfl | simp, by omega, HX2, by first | rfl | trivial⟩, ?_⟩
          simp [strLen]
          omega
        · have HFR : Hid (fracT F = 46 :: s.data.toList) := Lib.hid (by rw [HFR0.out, ← HX.out, strip_no hs0 h48])
          clear HX
          by_cases hx : x < 0
          · by_cases h10 : x.natAbs < 10
            · have p1 : ((e : Int) - 1023) < 0 := by omega
              have p2 : (-((e : Int) - 1023) < 10) := by omega
              go_wp2_with fail
              refine (HDC.out x.natAbs _ _ (by omega) (by omega)).mono ?_
              rintro e9 w9 ⟨rfl, hb9⟩
              have hl9 : (Lib.decDigits x.natAbs).length ≤ 20 := by rw [Lib.decDigits_length]; exact Lib.nDigits_le20 _ (by omega)
              have HEX : Hid (expT x = 45 :: ([48] ++ Lib.decDigits x.natAbs)) := Lib.hid (by unfold expT; rw [if_pos (by omega), if_pos (by omega)])
              generalize Lib.decDigits x.natAbs = L9 at *
              have s9 : (⟨L9.toArray⟩ : ByteArray).size = L9.length := by simp [ByteArray.size]
              go_wp2_with fail
              go_ret
              exact ⟨by rw [HT.out]; unfold bodyG; rw [HEX.out, HFR.out]; exact text_end (by simp [ByteArray.data_append]), hb1.trans (hb9.mono hb1.size)⟩
            · have p1 : ((e : Int) - 1023) < 0 := by omega
              have p2 : ¬ (-((e : Int) - 1023) < 10) := by omega
              go_wp2_with fail
              refine (HDC.out x.natAbs _ _ (by omega) (by omega)).mono ?_
              rintro e9 w9 ⟨rfl, hb9⟩
              have hl9 : (Lib.decDigits x.natAbs).length ≤ 20 := by rw [Lib.decDigits_length]; exact Lib.nDigits_le20 _ (by omega)
              have HEX : Hid (expT x = 45 :: ([] ++ Lib.decDigits x.natAbs)) := Lib.hid (by unfold expT; rw [if_pos (by omega), if_neg (by omega)])
              generalize Lib.decDigits x.natAbs = L9 at *
              have s9 : (⟨L9.toArray⟩ : ByteArray).size = L9.length := by simp [ByteArray.size]
              go_wp2_with fail
              go_ret
              exact ⟨by rw [HT.out]; unfold bodyG; rw [HEX.out, HFR.out]; exact text_end (by simp [ByteArray.data_append]), hb1.trans (hb9.mono hb1.size)⟩
          · by_cases h10 : x.natAbs < 10
            · have p1 : ¬ (((e : Int) - 1023) < 0) := by omega
              have p2 : (((e : Int) - 1023) < 10) := by omega
              go_wp2_with fail
              refine (HDC.out x.natAbs _ _ (by omega) (by omega)).mono ?_
              rintro e9 w9 ⟨rfl, hb9⟩
              have hl9 : (Lib.decDigits x.natAbs).length ≤ 20 := by rw [Lib.decDigits_length]; exact Lib.nDigits_le20 _ (by omega)
              have HEX : Hid (expT x = 43 :: ([48] ++ Lib.decDigits x.natAbs)) := Lib.hid (by unfold expT; rw [if_neg (by omega), if_pos (by omega)])
              generalize Lib.decDigits x.natAbs = L9 at *
              have s9 : (⟨L9.toArray⟩ : ByteArray).size = L9.length := by simp [ByteArray.size]
              go_wp2_with fail
              go_ret
              exact ⟨by rw [HT.out]; unfold bodyG; rw [HEX.out, HFR.out]; exact text_end (by simp [ByteArray.data_append]), hb1.trans (hb9.mono hb1.size)⟩
            · have p1 : ¬ (((e : Int) - 1023) < 0) := by omega
              have p2 : ¬ (((e : Int) - 1023) < 10) := by omega
              go_wp2_with fail
              refine (HDC.out x.natAbs _ _ (by omega) (by omega)).mono ?_
              rintro e9 w9 ⟨rfl, hb9⟩
              have hl9 : (Lib.decDigits x.natAbs).length ≤ 20 := by rw [Lib.decDigits_length]; exact Lib.nDigits_le20 _ (by omega)
              have HEX : Hid (expT x = 43 :: ([] ++ Lib.decDigits x.natAbs)) := Lib.hid (by unfold expT; rw [if_neg (by omega), if_neg (by omega)])
              generalize Lib.decDigits x.natAbs = L9 at *
              have s9 : (⟨L9.toArray⟩ : ByteArray).size = L9.length := by simp [ByteArray.size]
              go_wp2_with fail
              go_ret
              exact ⟨by rw [HT.out]; unfold bodyG; rw [HEX.out, HFR.out]; exact text_end (by simp [ByteArray.data_append]), hb1.trans (hb9.mono hb1.size)⟩
set_option maxRecDepth 100000 in
set_option maxHeartbeats 4000000 in
theorem rfloat_sub (f : Nat) (w : World) (hb : f < 18446744073709551616) (e m : Nat) (he : e = f / 4503599627370496 % 2048) (hm : m = f % 4503599627370496) (h1 : e = 0) (h2 : m ≠ 0) : Calls Tryz.prog 39 #[.float .f64 f] w (TextPost (fltT f) w) := by
  have k0 := fun (w : World) => run_f64bits f w
  have ke : (f : Int) / 4503599627370496 % 2048 = (e : Int) := by omega
  have km : (f : Int) % 4503599627370496 = (m : Int) := by omega
  have hsg : ((f : Int) / 9223372036854775808 == 1) = decide (9223372036854775808 ≤ f) := by
    rw [Bool.eq_iff_iff, beq_iff_eq, decide_eq_true_iff]; omega
  obtain ⟨sg, hs⟩ : ∃ sg, sg = decide (9223372036854775808 ≤ f) := ⟨_, rfl⟩
  rw [← hs] at hsg
  have HS := Lib.hid hs
  clear hs
  have HT0 : Hid (fltT f = (if sg = true then [45] else []) ++ 48 :: 120 :: 49 :: (fracT ((normF 52 m 1).1 - 4503599627370496) ++ 112 :: expT ((normF 52 m 1).2 - 1023))) := Lib.hid (by
    rw [flt_even he hm (by omega), bodyT_sub h1 h2, HS.out]; simp)
  have g1 : (e : Int) = 0 := by omega
  have g2 : ¬ ((m : Int) = 0) := by omega
  have g2b : ((m : Int) == 0) = false := by rw [beq_eq_false_iff_ne]; exact g2
  have g3 : m < 4503599627370496 := by omega
  have HDC := Lib.hid (fun (n : Nat) (z : Int) (W : World) (hz : z = n) (hn : n < 18446744073709551616) => (by rw [hz]; exact dec_any n hn W : Calls Tryz.prog 76 #[.int .u64 z] W (TextPost (Lib.decDigits n) W)))
  have HD13 := Lib.hid (fun (n : Nat) (z : Int) (W : World) (hz : z = n) => (by rw [hz]; exact digits_any n 13 (by decide) (by decide) W : Calls Tryz.prog 75 #[.int .u64 z, .int .i64 13] W (TextPost (hexN 13 n) W)))
  clear he hm HS
  cases sg
  · go_enter Tryz.func39, Tryz.ntmps39
    go_wp2_with fail
    go_loopw [5, 6] (fun ve vm wr => ∃ (k j z : Nat) (y : Int), ve = .int .i64 (1 - k) ∧ vm = .int .u64 y ∧ w = wr ∧ Hid (k + j = 52 ∧ y = z) ∧ y < 9007199254740992 ∧ 1 ≤ y ∧ Hid (normF 52 m 1 = normF j z (1 - k)) ∧ Hid (4503599627370496 ≤ z * 2 ^ j)) (fun ve _ _ => (intOf ve + 53).toNat)
    case atStart => exact ⟨0, 52, m, m, rfl, by first | rfl | rw [km], rfl, Lib.hid ⟨rfl, rfl⟩, by omega, by omega, Lib.hid rfl, Lib.hid (by omega)⟩
    case round =>
      obtain ⟨k, j, z, y, rfl, rfl, rfl, HKZ, hz, hz1, HN, HP⟩ := hrel
      by_cases hlt : y < 4503599627370496
      · have hyz := HKZ.out
        obtain ⟨j2, rfl, hn2, hp2⟩ := normF_go (e := 1 - (k : Int)) (by omega : z < 4503599627370496) HP.out
        have HKZ2 : Hid ((k + 1) + j2 = 52 ∧ y * 2 = ((2 * z : Nat) : Int)) := Lib.hid (by omega)
        have HN2 : Hid (normF 52 m 1 = normF j2 (2 * z) (1 - ((k + 1 : Nat) : Int))) := Lib.hid (by rw [HN.out, hn2, show (1 - ((k + 1 : Nat) : Int)) = 1 - (k : Int) - 1 by omega])
        have HP2 := Lib.hid hp2
        have hw2 : IntKind.u64.wrap (y * 2) = y * 2 := by rw [IntKind.wrap_u64]; omega
        have hwk : IntKind.i64.wrap (1 - (k : Int) - 1) = 1 - (k : Int) - 1 := by rw [IntKind.wrap_i64]; omega
        have hk52 : k < 52 := by omega
        clear hn2 hp2 HN HP hyz HKZ
        go_wp2
        refine ⟨⟨k + 1, j2, 2 * z, y * 2, by simp; omega, rfl, trivial, HKZ2, by omega, by omega, HN2, HP2⟩, ?_⟩
        simp [intOf]
        try omega
      · have hyz := HKZ.out
        obtain ⟨F, hF0⟩ : ∃ F : Nat, z = F + 4503599627370496 := ⟨z - 4503599627370496, by omega⟩
        obtain ⟨x, hx0⟩ : ∃ x : Int, x = 1 - (k : Int) - 1023 := ⟨_, rfl⟩
        have hF1 : F < 4503599627370496 := by omega
        have hkj2 : k ≤ 52 := by omega
        have HT : Hid (fltT f = bodyG false F x) := Lib.hid (by
          rw [HT0.out, HN.out, normF_end (by omega)]
          unfold bodyG
          rw [hx0, hF0, show F + 4503599627370496 - 4503599627370496 = F by omega]
          try simp)
        clear HN HP
        have kz : y - 4503599627370496 = (F : Int) := by omega
        have kz2 : IntKind.u64.wrap (y - 4503599627370496) = (F : Int) := by rw [IntKind.wrap_u64]; omega
        have kx : 1 - (k : Int) - 1023 = x := hx0.symm
        have kx2 : IntKind.i64.wrap (1 - (k : Int) - 1023) = x := by rw [IntKind.wrap_i64]; omega
        have hlt2 : ¬ (y < 4503599627370496) := by omega
        have hxl : x < -1000 := by omega
        have hxh : -1100 < x := by omega
        clear hyz HKZ
        have kn : IntKind.i64.wrap (-x) = -x := by rw [IntKind.wrap_i64]; omega
        have hx : x < 0 := by omega
        have h10 : ¬ x.natAbs < 10 := by omega
        have HXB : Hid (-1100 < x ∧ x < -1000 ∧ x.natAbs < 2000) := Lib.hid (by omega)
        have hmx : -x ≤ 2000 := by omega
        have hmx1 : 10 ≤ -x := by omega
        have HF1 := Lib.hid hF1
        clear hF0 hx0 hlt hxl hxh h10 hF1
        by_cases hF : F = 0
        · have g3 : ¬ (0 < (F : Int)) := by omega
          have HFR : Hid (fracT F = []) := Lib.hid (by unfold fracT; rw [if_pos hF])
          have HF0 := Lib.hid hF
          clear hF
          have p1 : x < 0 := by omega
          have p2 : ¬ (-x < 10) := by omega
          go_wp2_with fail
          have hxb := HXB.out
          refine (HDC.out x.natAbs _ _ (by omega) (by omega)).mono ?_
          rintro e9 w9 ⟨rfl, hb9⟩
          have hl9 : (Lib.decDigits x.natAbs).length ≤ 20 := by rw [Lib.decDigits_length]; exact Lib.nDigits_le20 _ (by omega)
          have HEX : Hid (expT x = 45 :: ([] ++ Lib.decDigits x.natAbs)) := Lib.hid (by unfold expT; rw [if_pos (by omega), if_neg (by omega)])
          generalize Lib.decDigits x.natAbs = L9 at *
          have s9 : (⟨L9.toArray⟩ : ByteArray).size = L9.length := by simp [ByteArray.size]
          clear hxb
          go_wp2_with fail
          go_ret
          exact ⟨by rw [HT.out]; unfold bodyG; rw [HEX.out, HFR.out]; exact text_end (by simp [ByteArray.data_append]), hb9⟩

        · have g3 : 0 < (F : Int) := by omega
          have HNE : Hid (fracD 13 F ≠ []) := Lib.hid (fracD_ne hF)
          have HFR0 : Hid (fracT F = 46 :: fracD 13 F) := Lib.hid (by unfold fracT; rw [if_neg hF])
          have HST : Hid (stripZ (hexN 13 F) = fracD 13 F) := Lib.hid (by rw [strip_hexN, Nat.mod_eq_of_lt (by rw [show 16 ^ 13 = 4503599627370496 from by decide]; first | omega | exact HF1.out)])
          clear hF
          go_wp2_with fail
          refine (HD13.out F _ _ (by omega)).mono ?_
          rintro e1 w1 ⟨rfl, hb1⟩
          have hlen : (hexN 13 F).length = 13 := hexN_length 13 F
          generalize hexN 13 F = l13 at *
          go_wp2_with fail
          go_loopw [8] (fun v wr => ∃ s : ByteArray, v = .string s ∧ s.size ≤ 13 ∧ Hid (stripZ s.data.toList = fracD 13 F) ∧ w1 = wr) (fun v _ => strLen v)
          case atStart => exact ⟨_, rfl, by simp [ByteArray.size]; omega, HST, rfl⟩
          case round =>
            obtain ⟨s, rfl, hs13, HX, rfl⟩ := hrel
            have hs0 : 0 < s.size := by
              by_cases h : 0 < s.size
              · exact h
              · exfalso
                have h1 : s.data.toList = [] := List.eq_nil_of_length_eq_zero (by rw [size_list]; omega)
                have h2 := HX.out
                rw [h1] at h2
                exact HNE.out h2.symm
            by_cases h48 : (s[s.size - 1]'(by omega)).toNat = 48
            · have HX2 : Hid (stripZ (s.extract 0 (s.size - 1)).data.toList = fracD 13 F) := Lib.hid (by rw [strip_yes hs0 h48, HX.out])
              have hsz : (s.extract 0 (s.size - 1)).size = s.size - 1 := by simp [ByteArray.size_extract]; try omega
              go_wp2
              refine ⟨⟨s.extract 0 (s.size - 1), by first | rfl | simp, by omega, HX2, by first | rfl | trivial⟩, ?_⟩
              simp [strLen]
              omega
            · have HFR : Hid (fracT F = 46 :: s.data.toList) := Lib.hid (by rw [HFR0.out, ← HX.out, strip_no hs0 h48])
              clear HX
              have p1 : x < 0 := by omega
              have p2 : ¬ (-x < 10) := by omega
              go_wp2_with fail
              have hxb := HXB.out
              refine (HDC.out x.natAbs _ _ (by omega) (by omega)).mono ?_
              rintro e9 w9 ⟨rfl, hb9⟩
              have hl9 : (Lib.decDigits x.natAbs).length ≤ 20 := by rw [Lib.decDigits_length]; exact Lib.nDigits_le20 _ (by omega)
              have HEX : Hid (expT x = 45 :: ([] ++ Lib.decDigits x.natAbs)) := Lib.hid (by unfold expT; rw [if_pos (by omega), if_neg (by omega)])
              generalize Lib.decDigits x.natAbs = L9 at *
              have s9 : (⟨L9.toArray⟩ : ByteArray).size = L9.length := by simp [ByteArray.size]
              clear hxb
              go_wp2_with fail
              go_ret
              exact ⟨by rw [HT.out]; unfold bodyG; rw [HEX.out, HFR.out]; exact text_end (by simp [ByteArray.data_append]), hb1.trans (hb9.mono hb1.size)⟩
  · go_enter Tryz.func39, Tryz.ntmps39
    go_wp2_with fail
    go_loopw [5, 6] (fun ve vm wr => ∃ (k j z : Nat) (y : Int), ve = .int .i64 (1 - k) ∧ vm = .int .u64 y ∧ w = wr ∧ Hid (k + j = 52 ∧ y = z) ∧ y < 9007199254740992 ∧ 1 ≤ y ∧ Hid (normF 52 m 1 = normF j z (1 - k)) ∧ Hid (4503599627370496 ≤ z * 2 ^ j)) (fun ve _ _ => (intOf ve + 53).toNat)
    case atStart => exact ⟨0, 52, m, m, rfl, by first | rfl | rw [km], rfl, Lib.hid ⟨rfl, rfl⟩, by omega, by omega, Lib.hid rfl, Lib.hid (by omega)⟩
    case round =>
      obtain ⟨k, j, z, y, rfl, rfl, rfl, HKZ, hz, hz1, HN, HP⟩ := hrel
      by_cases hlt : y < 4503599627370496
      · have hyz := HKZ.out
        obtain ⟨j2, rfl, hn2, hp2⟩ := normF_go (e := 1 - (k : Int)) (by omega : z < 4503599627370496) HP.out
        have HKZ2 : Hid ((k + 1) + j2 = 52 ∧ y * 2 = ((2 * z : Nat) : Int)) := Lib.hid (by omega)
        have HN2 : Hid (normF 52 m 1 = normF j2 (2 * z) (1 - ((k + 1 : Nat) : Int))) := Lib.hid (by rw [HN.out, hn2, show (1 - ((k + 1 : Nat) : Int)) = 1 - (k : Int) - 1 by omega])
        have HP2 := Lib.hid hp2
        have hw2 : IntKind.u64.wrap (y * 2) = y * 2 := by rw [IntKind.wrap_u64]; omega
        have hwk : IntKind.i64.wrap (1 - (k : Int) - 1) = 1 - (k : Int) - 1 := by rw [IntKind.wrap_i64]; omega
        have hk52 : k < 52 := by omega
        clear hn2 hp2 HN HP hyz HKZ
        go_wp2
        refine ⟨⟨k + 1, j2, 2 * z, y * 2, by simp; omega, rfl, trivial, HKZ2, by omega, by omega, HN2, HP2⟩, ?_⟩
        simp [intOf]
        try omega
      · have hyz := HKZ.out
        obtain ⟨F, hF0⟩ : ∃ F : Nat, z = F + 4503599627370496 := ⟨z - 4503599627370496, by omega⟩
        obtain ⟨x, hx0⟩ : ∃ x : Int, x = 1 - (k : Int) - 1023 := ⟨_, rfl⟩
        have hF1 : F < 4503599627370496 := by omega
        have hkj2 : k ≤ 52 := by omega
        have HT : Hid (fltT f = bodyG true F x) := Lib.hid (by
          rw [HT0.out, HN.out, normF_end (by omega)]
          unfold bodyG
          rw [hx0, hF0, show F + 4503599627370496 - 4503599627370496 = F by omega]
          try simp)
        clear HN HP
        have kz : y - 4503599627370496 = (F : Int) := by omega
        have kz2 : IntKind.u64.wrap (y - 4503599627370496) = (F : Int) := by rw [IntKind.wrap_u64]; omega
        have kx : 1 - (k : Int) - 1023 = x := hx0.symm
        have kx2 : IntKind.i64.wrap (1 - (k : Int) - 1023) = x := by rw [IntKind.wrap_i64]; omega
        have hlt2 : ¬ (y < 4503599627370496) := by omega
        have hxl : x < -1000 := by omega
        have hxh : -1100 < x := by omega
        clear hyz HKZ
        have kn : IntKind.i64.wrap (-x) = -x := by rw [IntKind.wrap_i64]; omega
        have hx : x < 0 := by omega
        have h10 : ¬ x.natAbs < 10 := by omega
        have HXB : Hid (-1100 < x ∧ x < -1000 ∧ x.natAbs < 2000) := Lib.hid (by omega)
        have hmx : -x ≤ 2000 := by omega
        have hmx1 : 10 ≤ -x := by omega
        have HF1 := Lib.hid hF1
        clear hF0 hx0 hlt hxl hxh h10 hF1
        by_cases hF : F = 0
        · have g3 : ¬ (0 < (F : Int)) := by omega
          have HFR : Hid (fracT F = []) := Lib.hid (by unfold fracT; rw [if_pos hF])
          have HF0 := Lib.hid hF
          clear hF
          have p1 : x < 0 := by omega
          have p2 : ¬ (-x < 10) := by omega
          go_wp2_with fail
          have hxb := HXB.out
          refine (HDC.out x.natAbs _ _ (by omega) (by omega)).mono ?_
          rintro e9 w9 ⟨rfl, hb9⟩
          have hl9 : (Lib.decDigits x.natAbs).length ≤ 20 := by rw [Lib.decDigits_length]; exact Lib.nDigits_le20 _ (by omega)
          have HEX : Hid (expT x = 45 :: ([] ++ Lib.decDigits x.natAbs)) := Lib.hid (by unfold expT; rw [if_pos (by omega), if_neg (by omega)])
          generalize Lib.decDigits x.natAbs = L9 at *
          have s9 : (⟨L9.toArray⟩ : ByteArray).size = L9.length := by simp [ByteArray.size]
          clear hxb
          go_wp2_with fail
          go_ret
          exact ⟨by rw [HT.out]; unfold bodyG; rw [HEX.out, HFR.out]; exact text_end (by simp [ByteArray.data_append]), hb9⟩

        · have g3 : 0 < (F : Int) := by omega
          have HNE : Hid (fracD 13 F ≠ []) := Lib.hid (fracD_ne hF)
          have HFR0 : Hid (fracT F = 46 :: fracD 13 F) := Lib.hid (by unfold fracT; rw [if_neg hF])
          have HST : Hid (stripZ (hexN 13 F) = fracD 13 F) := Lib.hid (by rw [strip_hexN, Nat.mod_eq_of_lt (by rw [show 16 ^ 13 = 4503599627370496 from by decide]; first | omega | exact HF1.out)])
          clear hF
          go_wp2_with fail
          refine (HD13.out F _ _ (by omega)).mono ?_
          rintro e1 w1 ⟨rfl, hb1⟩
          have hlen : (hexN 13 F).length = 13 := hexN_length 13 F
          generalize hexN 13 F = l13 at *
          go_wp2_with fail
          go_loopw [8] (fun v wr => ∃ s : ByteArray, v = .string s ∧ s.size ≤ 13 ∧ Hid (stripZ s.data.toList = fracD 13 F) ∧ w1 = wr) (fun v _ => strLen v)
          case atStart => exact ⟨_, rfl, by simp [ByteArray.size]; omega, HST, rfl⟩
          case round =>
            obtain ⟨s, rfl, hs13, HX, rfl⟩ := hrel
            have hs0 : 0 < s.size := by
              by_cases h : 0 < s.size
              · exact h
              · exfalso
                have h1 : s.data.toList = [] := List.eq_nil_of_length_eq_zero (by rw [size_list]; omega)
                have h2 := HX.out
                rw [h1] at h2
                exact HNE.out h2.symm
            by_cases h48 : (s[s.size - 1]'(by omega)).toNat = 48
            · have HX2 : Hid (stripZ (s.extract 0 (s.size - 1)).data.toList = fracD 13 F) := Lib.hid (by rw [strip_yes hs0 h48, HX.out])
              have hsz : (s.extract 0 (s.size - 1)).size = s.size - 1 := by simp [ByteArray.size_extract]; try omega
              go_wp2
              refine ⟨⟨s.extract 0 (s.size - 1), by first | rfl | simp, by omega, HX2, by first | rfl | trivial⟩, ?_⟩
              simp [strLen]
              omega
            · have HFR : Hid (fracT F = 46 :: s.data.toList) := Lib.hid (by rw [HFR0.out, ← HX.out, strip_no hs0 h48])
              clear HX
              have p1 : x < 0 := by omega
              have p2 : ¬ (-x < 10) := by omega
              go_wp2_with fail
              have hxb := HXB.out
              refine (HDC.out x.natAbs _ _ (by omega) (by omega)).mono ?_
              rintro e9 w9 ⟨rfl, hb9⟩
              have hl9 : (Lib.decDigits x.natAbs).length ≤ 20 := by rw [Lib.decDigits_length]; exact Lib.nDigits_le20 _ (by omega)
              have HEX : Hid (expT x = 45 :: ([] ++ Lib.decDigits x.natAbs)) := Lib.hid (by unfold expT; rw [if_pos (by omega), if_neg (by omega)])
              generalize Lib.decDigits x.natAbs = L9 at *
              have s9 : (⟨L9.toArray⟩ : ByteArray).size = L9.length := by simp [ByteArray.size]
              clear hxb
              go_wp2_with fail
              go_ret
              exact ⟨by rw [HT.out]; unfold bodyG; rw [HEX.out, HFR.out]; exact text_end (by simp [ByteArray.data_append]), hb1.trans (hb9.mono hb1.size)⟩
theorem rfloat_any (f : Nat) (w : World) (hb : f < 18446744073709551616) : Calls Tryz.prog 39 #[.float .f64 f] w (TextPost (fltT f) w) := by
  by_cases h1 : f / 4503599627370496 % 2048 = 2047
  · exact rfloat_odd f w hb _ _ rfl rfl (.inl h1)
  · by_cases h2 : f / 4503599627370496 % 2048 = 0
    · by_cases h3 : f % 4503599627370496 = 0
      · exact rfloat_odd f w hb _ _ rfl rfl (.inr ⟨h2, h3⟩)
      · exact rfloat_sub f w hb _ _ rfl rfl h2 h3
    · exact rfloat_norm f w hb _ _ rfl rfl h1 h2
end Go.Proofs.YtobpkelblpdajaaGreatDoor
