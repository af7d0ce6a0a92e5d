/- Walks: query.whole, float, negative. -/
import Derived.Test.YtbemeapjeipjlaaGreatDoorQL19
set_option linter.unusedVariables false
set_option linter.unusedSimpArgs false
namespace Go.Proofs.YtbemeapjeipjlaaGreatDoor
open Go Go.RowKit
attribute [local go_sem] ta_no_bool ta_yes_bool ta_nil_bool ta_no_int64 ta_yes_int64 ta_nil_int64 ta_no_flt ta_yes_flt ta_nil_flt ta_no_str ta_yes_str ta_nil_str ta_no_byt ta_yes_byt ta_nil_byt ta_no_ref ta_yes_ref ta_nil_ref ta_no_lst ta_yes_lst ta_nil_lst ta_no_dct ta_yes_dct ta_nil_dct ta_no_rec ta_yes_rec ta_nil_rec
theorem wrap_in (n : Int) : -9223372036854775808 ≤ wrap64 n ∧ wrap64 n ≤ 9223372036854775807 := by
  unfold wrap64; omega
theorem mulO_yes {u v : Int} (g0 : ¬ u = 0) (g1 : ¬ v = 0) (q : (wrap64 ((wrap64 (u * v)).tdiv v) == u) = true) (h : ((u == -1) && (v == -9223372036854775808)) = false) (h2 : ((v == -1) && (u == -9223372036854775808)) = false) : mulO u v = some (wrap64 (u * v)) := by
  unfold mulO
  rw [if_neg (by omega), if_pos ⟨eq_of_beq q, by rintro ⟨rfl, rfl⟩; simp at h, by rintro ⟨rfl, rfl⟩; simp at h2⟩]
theorem mulO_no {u v : Int} (g0 : ¬ u = 0) (g1 : ¬ v = 0) (h : (wrap64 ((wrap64 (u * v)).tdiv v) == u) = false ∨ ((u == -1) && (v == -9223372036854775808)) = true ∨ ((v == -1) && (u == -9223372036854775808)) = true) : mulO u v = none := by
  unfold mulO
  rw [if_neg (by omega), if_neg]
  rintro ⟨h1, h2, h3⟩
  rcases h with h | h | h
  · rw [h1] at h; simp at h
  · simp at h; exact h2 h
  · simp at h; exact h3 h
theorem tmod_in (u v : Int) (h : -9223372036854775808 ≤ u ∧ u ≤ 9223372036854775807) : -9223372036854775808 ≤ u.tmod v ∧ u.tmod v ≤ 9223372036854775807 := by
  have h1 := Int.natAbs_tmod u v
  have h2 := Nat.mod_le u.natAbs v.natAbs
  by_cases h0 : 0 ≤ u
  · have := Int.tmod_nonneg v h0
    omega
  · have h3 : 0 ≤ (-u).tmod v := Int.tmod_nonneg v (by omega)
    rw [Int.neg_tmod] at h3
    omega
set_option maxRecDepth 100000 in
set_option maxHeartbeats 1000000 in
theorem whole_add (a : Int) (p : Value) (nm : ByteArray) (y : List Value) (hy : Eleven y) (hp : p.oneCell' = true) (u v : Int) (S : Nat → Prop) (w : World) (hu : -9223372036854775808 ≤ u ∧ u ≤ 9223372036854775807) (hv : -9223372036854775808 ≤ v ∧ v ≤ 9223372036854775807) :
    Calls Tryz.prog 101 #[eV oAdd a p nm y, .int .i64 u, .int .i64 v] w (OutPost S (intOut a (wholeO oAdd u v)) w) := by
  have HBad := Lib.hid (fun (W : World) => bad_any oAdd a p nm y hy hp W)
  obtain ⟨n0, n1, n2, n3, n4, n5, n6, n7, n8, n9, n10, rfl, h1⟩ := hy
  clear h1
  unfold eV at *
  have HB : Hid (Below w.heap.size w (w.alloc (.cells #[.string oAdd, .int .i64 a, p, .string nm, n0, n1, n2, n3, n4, n5, n6, n7, n8, n9, n10] 32))) := Lib.hid ((Below.refl _ _).alloc (Nat.le_refl _) _)
  have hwr := wrap_in (u + v)
  have HU : Hid (wholeO oAdd u v = addO u v) := Lib.hid (by unfold wholeO; rw [if_pos rfl])
  by_cases g1 : u < wrap64 (u + v)
  · by_cases g2 : 0 < v
    · have HF : Hid (intOut a (wholeO oAdd u v) = .val (.int (wrap64 (u + v)))) := Lib.hid (by rw [HU.out]; unfold addO; simp [g1, g2, intOut])
      clear HU
      go_enter Tryz.func101, Tryz.ntmps101
      go_wp2
      go_ret
      exact ⟨HB.out, by rw [HF.out]; exact ⟨_, rfl, rfl, by first | exact hwr | omega⟩⟩
    · have HF : Hid (intOut a (wholeO oAdd u v) = .gone a 172) := Lib.hid (by rw [HU.out]; unfold addO; simp [g1, g2, intOut])
      clear HU
      go_enter Tryz.func101, Tryz.ntmps101
      go_wp2_with fail
      refine (HBad.out _).mono ?_
      rintro e w9 ⟨rfl, hb9⟩
      exact ⟨rfl, HB.out.trans (hb9.mono (by simp)), by rw [HF.out]⟩
  · by_cases g2 : 0 < v
    · have HF : Hid (intOut a (wholeO oAdd u v) = .gone a 172) := Lib.hid (by rw [HU.out]; unfold addO; simp [g1, g2, intOut])
      clear HU
      go_enter Tryz.func101, Tryz.ntmps101
      go_wp2_with fail
      refine (HBad.out _).mono ?_
      rintro e w9 ⟨rfl, hb9⟩
      exact ⟨rfl, HB.out.trans (hb9.mono (by simp)), by rw [HF.out]⟩
    · have HF : Hid (intOut a (wholeO oAdd u v) = .val (.int (wrap64 (u + v)))) := Lib.hid (by rw [HU.out]; unfold addO; simp [g1, g2, intOut])
      clear HU
      go_enter Tryz.func101, Tryz.ntmps101
      go_wp2
      go_ret
      exact ⟨HB.out, by rw [HF.out]; exact ⟨_, rfl, rfl, by first | exact hwr | omega⟩⟩
set_option maxRecDepth 100000 in
set_option maxHeartbeats 1000000 in
theorem whole_sub (a : Int) (p : Value) (nm : ByteArray) (y : List Value) (hy : Eleven y) (hp : p.oneCell' = true) (u v : Int) (S : Nat → Prop) (w : World) (hu : -9223372036854775808 ≤ u ∧ u ≤ 9223372036854775807) (hv : -9223372036854775808 ≤ v ∧ v ≤ 9223372036854775807) :
    Calls Tryz.prog 101 #[eV oSub a p nm y, .int .i64 u, .int .i64 v] w (OutPost S (intOut a (wholeO oSub u v)) w) := by
  have HBad := Lib.hid (fun (W : World) => bad_any oSub a p nm y hy hp W)
  obtain ⟨n0, n1, n2, n3, n4, n5, n6, n7, n8, n9, n10, rfl, h1⟩ := hy
  clear h1
  unfold eV at *
  have HB : Hid (Below w.heap.size w (w.alloc (.cells #[.string oSub, .int .i64 a, p, .string nm, n0, n1, n2, n3, n4, n5, n6, n7, n8, n9, n10] 32))) := Lib.hid ((Below.refl _ _).alloc (Nat.le_refl _) _)
  have hwr := wrap_in (u - v)
  have HU : Hid (wholeO oSub u v = subO u v) := Lib.hid (by unfold wholeO; rw [if_neg (by decide), if_pos rfl])
  by_cases g1 : wrap64 (u - v) < u
  · by_cases g2 : 0 < v
    · have HF : Hid (intOut a (wholeO oSub u v) = .val (.int (wrap64 (u - v)))) := Lib.hid (by rw [HU.out]; unfold subO; simp [g1, g2, intOut])
      clear HU
      go_enter Tryz.func101, Tryz.ntmps101
      go_wp2
      go_ret
      exact ⟨HB.out, by rw [HF.out]; exact ⟨_, rfl, rfl, by first | exact hwr | omega⟩⟩
    · have HF : Hid (intOut a (wholeO oSub u v) = .gone a 172) := Lib.hid (by rw [HU.out]; unfold subO; simp [g1, g2, intOut])
      clear HU
      go_enter Tryz.func101, Tryz.ntmps101
      go_wp2_with fail
      refine (HBad.out _).mono ?_
      rintro e w9 ⟨rfl, hb9⟩
      exact ⟨rfl, HB.out.trans (hb9.mono (by simp)), by rw [HF.out]⟩
  · by_cases g2 : 0 < v
    · have HF : Hid (intOut a (wholeO oSub u v) = .gone a 172) := Lib.hid (by rw [HU.out]; unfold subO; simp [g1, g2, intOut])
      clear HU
      go_enter Tryz.func101, Tryz.ntmps101
      go_wp2_with fail
      refine (HBad.out _).mono ?_
      rintro e w9 ⟨rfl, hb9⟩
      exact ⟨rfl, HB.out.trans (hb9.mono (by simp)), by rw [HF.out]⟩
    · have HF : Hid (intOut a (wholeO oSub u v) = .val (.int (wrap64 (u - v)))) := Lib.hid (by rw [HU.out]; unfold subO; simp [g1, g2, intOut])
      clear HU
      go_enter Tryz.func101, Tryz.ntmps101
      go_wp2
      go_ret
      exact ⟨HB.out, by rw [HF.out]; exact ⟨_, rfl, rfl, by first | exact hwr | omega⟩⟩
set_option maxRecDepth 100000 in
set_option maxHeartbeats 1000000 in
theorem whole_mul (a : Int) (p : Value) (nm : ByteArray) (y : List Value) (hy : Eleven y) (hp : p.oneCell' = true) (u v : Int) (S : Nat → Prop) (w : World) (hu : -9223372036854775808 ≤ u ∧ u ≤ 9223372036854775807) (hv : -9223372036854775808 ≤ v ∧ v ≤ 9223372036854775807) :
    Calls Tryz.prog 101 #[eV oMul a p nm y, .int .i64 u, .int .i64 v] w (OutPost S (intOut a (wholeO oMul u v)) w) := by
  have HBad := Lib.hid (fun (W : World) => bad_any oMul a p nm y hy hp W)
  obtain ⟨n0, n1, n2, n3, n4, n5, n6, n7, n8, n9, n10, rfl, h1⟩ := hy
  clear h1
  unfold eV at *
  have HB : Hid (Below w.heap.size w (w.alloc (.cells #[.string oMul, .int .i64 a, p, .string nm, n0, n1, n2, n3, n4, n5, n6, n7, n8, n9, n10] 32))) := Lib.hid ((Below.refl _ _).alloc (Nat.le_refl _) _)
  have hwr := wrap_in (u * v)
  have HU : Hid (wholeO oMul u v = mulO u v) := Lib.hid (by unfold wholeO; rw [if_neg (by decide), if_neg (by decide), if_pos rfl])
  by_cases g0 : u = 0
  · have HF : Hid (intOut a (wholeO oMul u v) = .val (.int 0)) := Lib.hid (by rw [HU.out]; unfold mulO; simp [g0, intOut])
    clear HU
    go_enter Tryz.func101, Tryz.ntmps101
    go_wp2
    go_ret
    exact ⟨HB.out, by rw [HF.out]; exact ⟨_, rfl, rfl, by first | exact hwr | omega⟩⟩
  by_cases g1 : v = 0
  · have HF : Hid (intOut a (wholeO oMul u v) = .val (.int 0)) := Lib.hid (by rw [HU.out]; unfold mulO; simp [g1, intOut])
    clear HU
    go_enter Tryz.func101, Tryz.ntmps101
    go_wp2
    go_ret
    exact ⟨HB.out, by rw [HF.out]; exact ⟨_, rfl, rfl, by first | exact hwr | omega⟩⟩
  have z0 : (u == 0) = false := by simpa using g0
  have z1 : (v == 0) = false := by simpa using g1
  cases q : (wrap64 ((wrap64 (u * v)).tdiv v) == u)
  · have HF : Hid (intOut a (wholeO oMul u v) = .gone a 172) := Lib.hid (by rw [HU.out, mulO_no g0 g1 (by first | exact .inl q | exact .inr (.inl (by rw [e1, e2]; rfl)) | exact .inr (.inr (by rw [e3, e4]; rfl)))]; rfl)
    clear HU
    go_enter Tryz.func101, Tryz.ntmps101
    go_wp2_with fail
    refine (HBad.out _).mono ?_
    rintro e w9 ⟨rfl, hb9⟩
    exact ⟨rfl, HB.out.trans (hb9.mono (by simp)), by rw [HF.out]⟩
  · cases e1 : (u == -1)
    · cases e3 : (v == -1)
      · have HF : Hid (intOut a (wholeO oMul u v) = .val (.int (wrap64 (u * v)))) := Lib.hid (by rw [HU.out, mulO_yes g0 g1 q (by first | (rw [e1]; rfl) | (rw [e1, e2]; rfl)) (by first | (rw [e3]; rfl) | (rw [e3, e4]; rfl))]; rfl)
        clear HU
        go_enter Tryz.func101, Tryz.ntmps101
        go_wp2
        go_ret
        exact ⟨HB.out, by rw [HF.out]; exact ⟨_, rfl, rfl, by first | exact hwr | omega⟩⟩
      · cases e4 : (u == -9223372036854775808)
        · have HF : Hid (intOut a (wholeO oMul u v) = .val (.int (wrap64 (u * v)))) := Lib.hid (by rw [HU.out, mulO_yes g0 g1 q (by first | (rw [e1]; rfl) | (rw [e1, e2]; rfl)) (by first | (rw [e3]; rfl) | (rw [e3, e4]; rfl))]; rfl)
          clear HU
          go_enter Tryz.func101, Tryz.ntmps101
          go_wp2
          go_ret
          exact ⟨HB.out, by rw [HF.out]; exact ⟨_, rfl, rfl, by first | exact hwr | omega⟩⟩
        · have HF : Hid (intOut a (wholeO oMul u v) = .gone a 172) := Lib.hid (by rw [HU.out, mulO_no g0 g1 (by first | exact .inl q | exact .inr (.inl (by rw [e1, e2]; rfl)) | exact .inr (.inr (by rw [e3, e4]; rfl)))]; rfl)
          clear HU
          go_enter Tryz.func101, Tryz.ntmps101
          go_wp2_with fail
          refine (HBad.out _).mono ?_
          rintro e w9 ⟨rfl, hb9⟩
          exact ⟨rfl, HB.out.trans (hb9.mono (by simp)), by rw [HF.out]⟩
    · cases e2 : (v == -9223372036854775808)
      · cases e3 : (v == -1)
        · have HF : Hid (intOut a (wholeO oMul u v) = .val (.int (wrap64 (u * v)))) := Lib.hid (by rw [HU.out, mulO_yes g0 g1 q (by first | (rw [e1]; rfl) | (rw [e1, e2]; rfl)) (by first | (rw [e3]; rfl) | (rw [e3, e4]; rfl))]; rfl)
          clear HU
          go_enter Tryz.func101, Tryz.ntmps101
          go_wp2
          go_ret
          exact ⟨HB.out, by rw [HF.out]; exact ⟨_, rfl, rfl, by first | exact hwr | omega⟩⟩
        · cases e4 : (u == -9223372036854775808)
          · have HF : Hid (intOut a (wholeO oMul u v) = .val (.int (wrap64 (u * v)))) := Lib.hid (by rw [HU.out, mulO_yes g0 g1 q (by first | (rw [e1]; rfl) | (rw [e1, e2]; rfl)) (by first | (rw [e3]; rfl) | (rw [e3, e4]; rfl))]; rfl)
            clear HU
            go_enter Tryz.func101, Tryz.ntmps101
            go_wp2
            go_ret
            exact ⟨HB.out, by rw [HF.out]; exact ⟨_, rfl, rfl, by first | exact hwr | omega⟩⟩
          · have HF : Hid (intOut a (wholeO oMul u v) = .gone a 172) := Lib.hid (by rw [HU.out, mulO_no g0 g1 (by first | exact .inl q | exact .inr (.inl (by rw [e1, e2]; rfl)) | exact .inr (.inr (by rw [e3, e4]; rfl)))]; rfl)
            clear HU
            go_enter Tryz.func101, Tryz.ntmps101
            go_wp2_with fail
            refine (HBad.out _).mono ?_
            rintro e w9 ⟨rfl, hb9⟩
            exact ⟨rfl, HB.out.trans (hb9.mono (by simp)), by rw [HF.out]⟩
      · have HF : Hid (intOut a (wholeO oMul u v) = .gone a 172) := Lib.hid (by rw [HU.out, mulO_no g0 g1 (by first | exact .inl q | exact .inr (.inl (by rw [e1, e2]; rfl)) | exact .inr (.inr (by rw [e3, e4]; rfl)))]; rfl)
        clear HU
        go_enter Tryz.func101, Tryz.ntmps101
        go_wp2_with fail
        refine (HBad.out _).mono ?_
        rintro e w9 ⟨rfl, hb9⟩
        exact ⟨rfl, HB.out.trans (hb9.mono (by simp)), by rw [HF.out]⟩
set_option maxRecDepth 100000 in
set_option maxHeartbeats 1000000 in
theorem whole_div (a : Int) (p : Value) (nm : ByteArray) (y : List Value) (hy : Eleven y) (hp : p.oneCell' = true) (u v : Int) (S : Nat → Prop) (w : World) (hu : -9223372036854775808 ≤ u ∧ u ≤ 9223372036854775807) (hv : -9223372036854775808 ≤ v ∧ v ≤ 9223372036854775807) :
    Calls Tryz.prog 101 #[eV oDiv a p nm y, .int .i64 u, .int .i64 v] w (OutPost S (intOut a (wholeO oDiv u v)) w) := by
  have HBad := Lib.hid (fun (W : World) => bad_any oDiv a p nm y hy hp W)
  obtain ⟨n0, n1, n2, n3, n4, n5, n6, n7, n8, n9, n10, rfl, h1⟩ := hy
  clear h1
  unfold eV at *
  have HB : Hid (Below w.heap.size w (w.alloc (.cells #[.string oDiv, .int .i64 a, p, .string nm, n0, n1, n2, n3, n4, n5, n6, n7, n8, n9, n10] 32))) := Lib.hid ((Below.refl _ _).alloc (Nat.le_refl _) _)
  have hwr := wrap_in (u.tdiv v)
  have HU : Hid (wholeO oDiv u v = divO u v) := Lib.hid (by unfold wholeO; rw [if_neg (by decide), if_neg (by decide), if_neg (by decide), if_pos rfl])
  by_cases g1 : v = 0
  · subst g1
    have HF : Hid (intOut a (wholeO oDiv u 0) = .gone a 172) := Lib.hid (by rw [HU.out]; rfl)
    clear HU
    go_enter Tryz.func101, Tryz.ntmps101
    go_wp2_with fail
    refine (HBad.out _).mono ?_
    rintro e w9 ⟨rfl, hb9⟩
    exact ⟨rfl, HB.out.trans (hb9.mono (by simp)), by rw [HF.out]⟩
  cases e4 : (u == -9223372036854775808)
  · have HF : Hid (intOut a (wholeO oDiv u v) = .val (.int (wrap64 (u.tdiv v)))) := Lib.hid (by rw [HU.out]; unfold divO; simp only [beq_iff_eq, beq_eq_false_iff_ne, bne_iff_ne, ne_eq] at *; simp [*, intOut])
    clear HU
    go_enter Tryz.func101, Tryz.ntmps101
    go_wp2
    go_ret
    exact ⟨HB.out, by rw [HF.out]; exact ⟨_, rfl, rfl, by first | exact hwr | omega⟩⟩
  · cases e3 : (v == -1)
    · have HF : Hid (intOut a (wholeO oDiv u v) = .val (.int (wrap64 (u.tdiv v)))) := Lib.hid (by rw [HU.out]; unfold divO; simp only [beq_iff_eq, beq_eq_false_iff_ne, bne_iff_ne, ne_eq] at *; simp [*, intOut])
      clear HU
      go_enter Tryz.func101, Tryz.ntmps101
      go_wp2
      go_ret
      exact ⟨HB.out, by rw [HF.out]; exact ⟨_, rfl, rfl, by first | exact hwr | omega⟩⟩
    · have HF : Hid (intOut a (wholeO oDiv u v) = .gone a 172) := Lib.hid (by rw [HU.out]; unfold divO; simp only [beq_iff_eq, beq_eq_false_iff_ne, bne_iff_ne, ne_eq] at *; simp [*, intOut])
      clear HU
      go_enter Tryz.func101, Tryz.ntmps101
      go_wp2_with fail
      refine (HBad.out _).mono ?_
      rintro e w9 ⟨rfl, hb9⟩
      exact ⟨rfl, HB.out.trans (hb9.mono (by simp)), by rw [HF.out]⟩
set_option maxRecDepth 100000 in
set_option maxHeartbeats 1000000 in
theorem whole_rem (a : Int) (p : Value) (nm : ByteArray) (y : List Value) (hy : Eleven y) (hp : p.oneCell' = true) (u v : Int) (S : Nat → Prop) (w : World) (hu : -9223372036854775808 ≤ u ∧ u ≤ 9223372036854775807) (hv : -9223372036854775808 ≤ v ∧ v ≤ 9223372036854775807) :
    Calls Tryz.prog 101 #[eV oRem a p nm y, .int .i64 u, .int .i64 v] w (OutPost S (intOut a (wholeO oRem u v)) w) := by
  have HBad := Lib.hid (fun (W : World) => bad_any oRem a p nm y hy hp W)
  obtain ⟨n0, n1, n2, n3, n4, n5, n6, n7, n8, n9, n10, rfl, h1⟩ := hy
  clear h1
  unfold eV at *
  have HB : Hid (Below w.heap.size w (w.alloc (.cells #[.string oRem, .int .i64 a, p, .string nm, n0, n1, n2, n3, n4, n5, n6, n7, n8, n9, n10] 32))) := Lib.hid ((Below.refl _ _).alloc (Nat.le_refl _) _)
  have hwr := tmod_in u v hu
  have HU : Hid (wholeO oRem u v = remO u v) := Lib.hid (by unfold wholeO; rw [if_neg (by decide), if_neg (by decide), if_neg (by decide), if_neg (by decide), if_pos rfl])
  cases e3 : (v == -1)
  · by_cases g1 : v = 0
    · subst g1
      have HF : Hid (intOut a (wholeO oRem u 0) = .gone a 172) := Lib.hid (by rw [HU.out]; rfl)
      clear HU
      go_enter Tryz.func101, Tryz.ntmps101
      go_wp2_with fail
      refine (HBad.out _).mono ?_
      rintro e w9 ⟨rfl, hb9⟩
      exact ⟨rfl, HB.out.trans (hb9.mono (by simp)), by rw [HF.out]⟩
    · have HF : Hid (intOut a (wholeO oRem u v) = .val (.int (u.tmod v))) := Lib.hid (by rw [HU.out]; unfold remO; simp only [beq_iff_eq, beq_eq_false_iff_ne, bne_iff_ne, ne_eq] at *; simp [*, intOut])
      clear HU
      go_enter Tryz.func101, Tryz.ntmps101
      go_wp2
      go_ret
      exact ⟨HB.out, by rw [HF.out]; exact ⟨_, rfl, rfl, by first | exact hwr | omega⟩⟩
  · have HF : Hid (intOut a (wholeO oRem u v) = .val (.int 0)) := Lib.hid (by rw [HU.out]; unfold remO; simp only [beq_iff_eq, beq_eq_false_iff_ne, bne_iff_ne, ne_eq] at *; simp [*, intOut])
    clear HU
    go_enter Tryz.func101, Tryz.ntmps101
    go_wp2
    go_ret
    exact ⟨HB.out, by rw [HF.out]; exact ⟨_, rfl, rfl, by first | exact hwr | omega⟩⟩
/- A number as a float. -/
def FloatPost (r : Option Nat) (w : World) (e : Ending) (w' : World) : Prop := e = .returned (.tuple #[.float .f64 (r.getD 0), .bool r.isSome]) ∧ w = w'
set_option maxRecDepth 100000 in
set_option maxHeartbeats 1000000 in
theorem float_any (x : V) (v : Value) (S : Nat → Prop) (w : World) (hx : RdS w S x v) : Calls Tryz.prog 102 #[v] w (FloatPost (floatOf x) w) := by
  by_cases h3 : kindV x = 3
  · obtain ⟨n, rfl⟩ := kind_is_int h3
    obtain ⟨rfl, _⟩ := hx
    go_enter Tryz.func102, Tryz.ntmps102
    go_wp2
    go_ret2
    exact ⟨rfl, rfl⟩
  by_cases h4 : kindV x = 4
  · obtain ⟨n, rfl⟩ := kind_is_flt h4
    obtain rfl := hx
    go_enter Tryz.func102, Tryz.ntmps102
    go_wp2
    go_ret2
    exact ⟨rfl, rfl⟩
  · have HF : Hid (floatOf x = none) := Lib.hid (by cases x <;> first | rfl | exact absurd rfl h3 | exact absurd rfl h4)
    have k0 := not_int hx 20 w h3
    have k1 := not_flt hx 20 w h4
    clear hx h3 h4
    go_enter Tryz.func102, Tryz.ntmps102
    go_wp2
    go_ret2
    exact ⟨by rw [HF.out]; rfl, rfl⟩
set_option maxRecDepth 100000 in
set_option maxHeartbeats 1000000 in
theorem negative_any (op : ByteArray) (a : Int) (p : Value) (nm : ByteArray) (y : List Value) (hy : Eleven y) (hp : p.oneCell' = true) (x : V) (v : Value) (S : Nat → Prop) (w : World) (hx : RdS w S x v) : Calls Tryz.prog 64 #[eV op a p nm y, v] w (OutPost S (negV a x) w) := by
  have HBad := Lib.hid (fun (W : World) => bad_any op a p nm y hy hp W)
  obtain ⟨n0, n1, n2, n3, n4, n5, n6, n7, n8, n9, n10, rfl, h1⟩ := hy
  clear h1
  unfold eV at *
  have HB : Hid (Below w.heap.size w (w.alloc (.cells #[.string op, .int .i64 a, p, .string nm, n0, n1, n2, n3, n4, n5, n6, n7, n8, n9, n10] 32))) := Lib.hid ((Below.refl _ _).alloc (Nat.le_refl _) _)
  by_cases h3 : kindV x = 3
  · obtain ⟨n, rfl⟩ := kind_is_int h3
    obtain ⟨rfl, hn1, hn2⟩ := hx
    cases hm : (n == -9223372036854775808)
    · have hwr : -9223372036854775808 ≤ -n ∧ -n ≤ 9223372036854775807 := by simp at hm; omega
      have hw : wrap64 (0 - n) = -n := by unfold wrap64; omega
      have hw' : wrap64 (-n) = -n := by unfold wrap64; omega
      have hne : (n != -9223372036854775808) = true := by simp [bne, hm]
      have HF : Hid (negV a (.int n) = .val (.int (-n))) := Lib.hid (by simp at hm; rw [negV, if_neg hm])
      go_enter Tryz.func64, Tryz.ntmps64
      go_wp2
      go_ret
      exact ⟨HB.out, by rw [HF.out]; exact ⟨_, rfl, by first | rfl | (rw [hw]) | (simp [hw]), hwr⟩⟩
    · have hne : (n != -9223372036854775808) = false := by simp [bne, hm]
      have HF : Hid (negV a (.int n) = .gone a 172) := Lib.hid (by simp at hm; rw [negV, if_pos hm])
      go_enter Tryz.func64, Tryz.ntmps64
      go_wp2_with fail
      refine (HBad.out _).mono ?_
      rintro e w9 ⟨rfl, hb9⟩
      exact ⟨rfl, HB.out.trans (hb9.mono (by simp)), by rw [HF.out]⟩
  by_cases h4 : kindV x = 4
  · obtain ⟨n, rfl⟩ := kind_is_flt h4
    obtain rfl := hx
    have HO := Lib.hid (fun (W : World) => one_any (Op.negFloat .f64 n) W)
    have k2 : ∀ (W : World), (Op.unary .neg (.float .f64 n)).run Tryz.prog W = .ok (.float .f64 (Op.negFloat .f64 n)) W := fun _ => rfl
    have HF : Hid (negV a (.flt n) = .val (.flt (oneV (Op.negFloat .f64 n)))) := Lib.hid rfl
    go_enter Tryz.func64, Tryz.ntmps64
    go_wp2_with fail
    refine (HO.out _).mono ?_
    rintro e w1 ⟨rfl, rfl⟩
    go_wp2
    go_ret
    exact ⟨HB.out, by rw [HF.out]; exact ⟨_, rfl, rfl⟩⟩
  · have HF : Hid (negV a x = .gone a 172) := Lib.hid (by cases x <;> first | rfl | exact absurd rfl h3 | exact absurd rfl h4)
    have k0 := not_int hx 20 (w.alloc (.cells #[.string op, .int .i64 a, p, .string nm, n0, n1, n2, n3, n4, n5, n6, n7, n8, n9, n10] 32)) h3
    have k1 := not_flt hx 20 (w.alloc (.cells #[.string op, .int .i64 a, p, .string nm, n0, n1, n2, n3, n4, n5, n6, n7, n8, n9, n10] 32)) h4
    clear hx h3 h4
    go_enter Tryz.func64, Tryz.ntmps64
    go_wp2_with fail
    refine (HBad.out _).mono ?_
    rintro e w9 ⟨rfl, hb9⟩
    exact ⟨rfl, HB.out.trans (hb9.mono (by simp)), by rw [HF.out]⟩
end Go.Proofs.YtbemeapjeipjlaaGreatDoor
