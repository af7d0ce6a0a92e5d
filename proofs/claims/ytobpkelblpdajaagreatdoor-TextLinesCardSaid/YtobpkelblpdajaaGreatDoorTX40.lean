/- Walk: the parser: a value, by its first byte: lists, dicts, numbers, words, nothing. -/
import Derived.Test.YtobpkelblpdajaaGreatDoorTX39
set_option linter.unusedVariables false
set_option linter.unusedSimpArgs false
set_option linter.unusedSectionVars false
namespace Go.Proofs.YtobpkelblpdajaaGreatDoor
open Go Go.RowKit
set_option maxRecDepth 100000 in
set_option maxHeartbeats 4000000 in
theorem pv_list (s : ByteArray) (dp a n : Nat) (r : Rd1) (hs : s.size ≤ 140737488351232) (ha : a ≤ s.size) (hc : s.data.toList[skipN s.data.toList a]? = some 91) (hn : n < 16384) (hdp : dp ≤ 64) (hr : MethD 141 s dp (skipN s.data.toList a) (n + 1) r) : PvalC s dp a n r := by
  intro bp w h he
  have hsz := size_list s
  have hlt := h.lt
  have HN := Lib.hid (next_any bp s a n w h ha hs)
  have HF := Lib.hid (fun (b why : Nat) (W : World) => fail_any (.pointer (some ⟨bp, 0, none⟩)) bp b why rfl W)
  have HE := Lib.hid he
  obtain ⟨c, hcc⟩ : ∃ c : UInt8, c = 91 := ⟨_, rfl⟩
  rw [← hcc] at hc
  obtain ⟨q, hq⟩ : ∃ q, q = skipN s.data.toList a := ⟨_, rfl⟩
  have HG : Hid (NextPost bp s a n w = fun e w' => e = .returned (.int .u8 (c.toNat : Int)) ∧ PaAt w' bp s q n ∧ Pside bp w w') := Lib.hid (by funext e w'; unfold NextPost; rw [hc, hq])
  rw [HG.out] at HN
  clear h he HG
  rw [← hq] at hr
  have HR := Lib.hid (fun (W : World) (h1 : PaAt W bp s q (n + 1)) (h2 : Penv W bp) => hr bp W h1 h2)
  clear hr hq
  obtain ⟨x, hx⟩ : ∃ x : Int, x = (c.toNat : Int) := ⟨_, rfl⟩
  rw [← hx] at HN
  have HX := Lib.hid hx
  have hn1 : ¬ (16384 : Int) ≤ (n : Int) := by omega
  have hd1 : ¬ (64 : Int) < (dp : Int) := by omega
  have hx9 : x = 91 := by rw [hx, hcc]; rfl
  have e43 : (x == 43) = false := by rw [hx9]; rfl
  have e45 : (x == 45) = false := by rw [hx9]; rfl
  have e34 : (x == 34) = false := by rw [hx9]; rfl
  have e35 : (x == 35) = false := by rw [hx9]; rfl
  have e64 : (x == 64) = false := by rw [hx9]; rfl
  have e91 : (x == 91) = true := by rw [hx9]; rfl
  have hD : decL.contains c = false := by rw [hcc]; rfl
  have hW : lowL.contains c = false := by rw [hcc]; rfl
  obtain ⟨jD, hjD⟩ : ∃ j, j = Lib.indexByte decL c := ⟨_, rfl⟩
  have HID := Lib.hid (fun (W : World) => (show Calls Tryz.prog 135 #[.string ⟨decL.toArray⟩, .int .u8 x] W (fun e w' => e = .returned (.int .i64 jD) ∧ W = w') by rw [hjD]; exact ix_any decL c x HX.out W))
  unfold decL at HID
  have hkD : jD < 0 := by
    by_cases h0 : 0 ≤ jD
    · exact absurd (idx_has.1 (by rw [← hjD]; exact h0)) (by rw [hD]; simp)
    · omega
  clear hjD
  obtain ⟨jW, hjW⟩ : ∃ j, j = Lib.indexByte lowL c := ⟨_, rfl⟩
  have HIW := Lib.hid (fun (W : World) => (show Calls Tryz.prog 135 #[.string ⟨lowL.toArray⟩, .int .u8 x] W (fun e w' => e = .returned (.int .i64 jW) ∧ W = w') by rw [hjW]; exact ix_any lowL c x HX.out W))
  unfold lowL at HIW
  have hkW : jW < 0 := by
    by_cases h0 : 0 ≤ jW
    · exact absurd (idx_has.1 (by rw [← hjW]; exact h0)) (by rw [hW]; simp)
    · omega
  clear hjW
  clear hc hx hcc hx9 hD hW
  go_enter Tryz.func79, Tryz.ntmps79
  go_wp2_with fail
  refine HN.out.mono ?_
  rintro e w1 ⟨rfl, hpa, hps⟩
  have d1 := hpa.c1
  have d2 := hpa.c2
  have g2 := hpa.f 2
  have hlt1 := hpa.lt
  have HPA := Lib.hid (by have h9 := hpa.set2 (n + 1); simpa using h9 : PaAt (w1.setCell ⟨bp, 2, none⟩ (.int .i64 ((n : Int) + 1))) bp s q (n + 1))
  have HPS := Lib.hid (hps.set 2 (.int .i64 ((n : Int) + 1)))
  clear hpa hps
  go_wp2_with fail
  clear d1 d2 g2
  refine (HID.out _).mono ?_
  rintro e w9 ⟨rfl, rfl⟩
  go_wp2_with fail
  refine (HIW.out _).mono ?_
  rintro e w9 ⟨rfl, rfl⟩
  go_wp2_with fail
  refine (HR.out _ HPA.out (HE.out.pside HPS.out)).mono ?_
  intro e w2 h2
  have h3 := h2.after HPS.out
  clear h2
  cases r with
  | error z =>
    obtain ⟨rfl, h4⟩ := h3
    exact ⟨rfl, rfl, h4⟩
  | ok z =>
    obtain ⟨⟨v, rfl, h4⟩, h5, h6⟩ := h3
    have hv1 := h4.one
    go_wp2_with fail
    go_ret
    exact ⟨⟨v, rfl, h4⟩, h5, h6⟩
set_option maxRecDepth 100000 in
set_option maxHeartbeats 4000000 in
theorem pv_digit (s : ByteArray) (dp a n : Nat) (c : UInt8) (r : Rd1) (hs : s.size ≤ 140737488351232) (ha : a ≤ s.size) (hc : s.data.toList[skipN s.data.toList a]? = some c) (hn : n < 16384) (hdp : dp ≤ 64) (h9 : decL.contains c = true) (hr : MethC 136 s (skipN s.data.toList a) (n + 1) r) : PvalC s dp a n r := by
  intro bp w h he
  have hsz := size_list s
  have hlt := h.lt
  have HN := Lib.hid (next_any bp s a n w h ha hs)
  have HF := Lib.hid (fun (b why : Nat) (W : World) => fail_any (.pointer (some ⟨bp, 0, none⟩)) bp b why rfl W)
  have HE := Lib.hid he
  obtain ⟨q, hq⟩ : ∃ q, q = skipN s.data.toList a := ⟨_, rfl⟩
  have HG : Hid (NextPost bp s a n w = fun e w' => e = .returned (.int .u8 (c.toNat : Int)) ∧ PaAt w' bp s q n ∧ Pside bp w w') := Lib.hid (by funext e w'; unfold NextPost; rw [hc, hq])
  rw [HG.out] at HN
  clear h he HG
  rw [← hq] at hr
  have HR := Lib.hid (fun (W : World) (h1 : PaAt W bp s q (n + 1)) (h2 : Penv W bp) => hr bp W h1 h2)
  clear hr hq
  obtain ⟨x, hx⟩ : ∃ x : Int, x = (c.toNat : Int) := ⟨_, rfl⟩
  rw [← hx] at HN
  have HX := Lib.hid hx
  have hn1 : ¬ (16384 : Int) ≤ (n : Int) := by omega
  have hd1 : ¬ (64 : Int) < (dp : Int) := by omega
  have e43 : (x == 43) = false := by
    rw [beq_eq_false_iff_ne]
    intro h0
    have h8 : c = 43 := UInt8.toNat_inj.1 (by show c.toNat = 43; omega)
    rw [h8] at h9
    exact absurd h9 (by decide)
  have e45 : (x == 45) = false := by
    rw [beq_eq_false_iff_ne]
    intro h0
    have h8 : c = 45 := UInt8.toNat_inj.1 (by show c.toNat = 45; omega)
    rw [h8] at h9
    exact absurd h9 (by decide)
  have hD := h9
  obtain ⟨jD, hjD⟩ : ∃ j, j = Lib.indexByte decL c := ⟨_, rfl⟩
  have HID := Lib.hid (fun (W : World) => (show Calls Tryz.prog 135 #[.string ⟨decL.toArray⟩, .int .u8 x] W (fun e w' => e = .returned (.int .i64 jD) ∧ W = w') by rw [hjD]; exact ix_any decL c x HX.out W))
  unfold decL at HID
  have hkD : 0 ≤ jD := by rw [hjD]; exact idx_has.2 hD
  clear hjD
  clear hc hx h9 hD
  go_enter Tryz.func79, Tryz.ntmps79
  go_wp2_with fail
  refine HN.out.mono ?_
  rintro e w1 ⟨rfl, hpa, hps⟩
  have d1 := hpa.c1
  have d2 := hpa.c2
  have g2 := hpa.f 2
  have hlt1 := hpa.lt
  have HPA := Lib.hid (by have h9 := hpa.set2 (n + 1); simpa using h9 : PaAt (w1.setCell ⟨bp, 2, none⟩ (.int .i64 ((n : Int) + 1))) bp s q (n + 1))
  have HPS := Lib.hid (hps.set 2 (.int .i64 ((n : Int) + 1)))
  clear hpa hps
  go_wp2_with fail
  clear d1 d2 g2
  refine (HID.out _).mono ?_
  rintro e w9 ⟨rfl, rfl⟩
  go_wp2_with fail
  refine (HR.out _ HPA.out (HE.out.pside HPS.out)).mono ?_
  intro e w2 h2
  have h3 := h2.after HPS.out
  clear h2
  cases r with
  | error z =>
    obtain ⟨rfl, h4⟩ := h3
    exact ⟨rfl, rfl, h4⟩
  | ok z =>
    obtain ⟨⟨v, rfl, h4⟩, h5, h6⟩ := h3
    have hv1 := h4.one
    go_wp2_with fail
    go_ret
    exact ⟨⟨v, rfl, h4⟩, h5, h6⟩
set_option maxRecDepth 100000 in
set_option maxHeartbeats 4000000 in
theorem pv_word (s : ByteArray) (dp a n : Nat) (c : UInt8) (r : Rd1) (hs : s.size ≤ 140737488351232) (ha : a ≤ s.size) (hc : s.data.toList[skipN s.data.toList a]? = some c) (hn : n < 16384) (hdp : dp ≤ 64) (h9 : lowL.contains c = true) (hD : decL.contains c = false) (hr : MethD 137 s dp (skipN s.data.toList a) (n + 1) r) : PvalC s dp a n r := by
  intro bp w h he
  have hsz := size_list s
  have hlt := h.lt
  have HN := Lib.hid (next_any bp s a n w h ha hs)
  have HF := Lib.hid (fun (b why : Nat) (W : World) => fail_any (.pointer (some ⟨bp, 0, none⟩)) bp b why rfl W)
  have HE := Lib.hid he
  obtain ⟨q, hq⟩ : ∃ q, q = skipN s.data.toList a := ⟨_, rfl⟩
  have HG : Hid (NextPost bp s a n w = fun e w' => e = .returned (.int .u8 (c.toNat : Int)) ∧ PaAt w' bp s q n ∧ Pside bp w w') := Lib.hid (by funext e w'; unfold NextPost; rw [hc, hq])
  rw [HG.out] at HN
  clear h he HG
  rw [← hq] at hr
  have HR := Lib.hid (fun (W : World) (h1 : PaAt W bp s q (n + 1)) (h2 : Penv W bp) => hr bp W h1 h2)
  clear hr hq
  obtain ⟨x, hx⟩ : ∃ x : Int, x = (c.toNat : Int) := ⟨_, rfl⟩
  rw [← hx] at HN
  have HX := Lib.hid hx
  have hn1 : ¬ (16384 : Int) ≤ (n : Int) := by omega
  have hd1 : ¬ (64 : Int) < (dp : Int) := by omega
  have e43 : (x == 43) = false := by
    rw [beq_eq_false_iff_ne]
    intro h0
    have h8 : c = 43 := UInt8.toNat_inj.1 (by show c.toNat = 43; omega)
    rw [h8] at h9
    exact absurd h9 (by decide)
  have e45 : (x == 45) = false := by
    rw [beq_eq_false_iff_ne]
    intro h0
    have h8 : c = 45 := UInt8.toNat_inj.1 (by show c.toNat = 45; omega)
    rw [h8] at h9
    exact absurd h9 (by decide)
  have hW := h9
  obtain ⟨jD, hjD⟩ : ∃ j, j = Lib.indexByte decL c := ⟨_, rfl⟩
  have HID := Lib.hid (fun (W : World) => (show Calls Tryz.prog 135 #[.string ⟨decL.toArray⟩, .int .u8 x] W (fun e w' => e = .returned (.int .i64 jD) ∧ W = w') by rw [hjD]; exact ix_any decL c x HX.out W))
  unfold decL at HID
  have hkD : jD < 0 := by
    by_cases h0 : 0 ≤ jD
    · exact absurd (idx_has.1 (by rw [← hjD]; exact h0)) (by rw [hD]; simp)
    · omega
  clear hjD
  obtain ⟨jW, hjW⟩ : ∃ j, j = Lib.indexByte lowL c := ⟨_, rfl⟩
  have HIW := Lib.hid (fun (W : World) => (show Calls Tryz.prog 135 #[.string ⟨lowL.toArray⟩, .int .u8 x] W (fun e w' => e = .returned (.int .i64 jW) ∧ W = w') by rw [hjW]; exact ix_any lowL c x HX.out W))
  unfold lowL at HIW
  have hkW : 0 ≤ jW := by rw [hjW]; exact idx_has.2 hW
  clear hjW
  clear hc hx h9 hD hW
  go_enter Tryz.func79, Tryz.ntmps79
  go_wp2_with fail
  refine HN.out.mono ?_
  rintro e w1 ⟨rfl, hpa, hps⟩
  have d1 := hpa.c1
  have d2 := hpa.c2
  have g2 := hpa.f 2
  have hlt1 := hpa.lt
  have HPA := Lib.hid (by have h9 := hpa.set2 (n + 1); simpa using h9 : PaAt (w1.setCell ⟨bp, 2, none⟩ (.int .i64 ((n : Int) + 1))) bp s q (n + 1))
  have HPS := Lib.hid (hps.set 2 (.int .i64 ((n : Int) + 1)))
  clear hpa hps
  go_wp2_with fail
  clear d1 d2 g2
  refine (HID.out _).mono ?_
  rintro e w9 ⟨rfl, rfl⟩
  go_wp2_with fail
  refine (HIW.out _).mono ?_
  rintro e w9 ⟨rfl, rfl⟩
  go_wp2_with fail
  refine (HR.out _ HPA.out (HE.out.pside HPS.out)).mono ?_
  intro e w2 h2
  have h3 := h2.after HPS.out
  clear h2
  cases r with
  | error z =>
    obtain ⟨rfl, h4⟩ := h3
    exact ⟨rfl, rfl, h4⟩
  | ok z =>
    obtain ⟨⟨v, rfl, h4⟩, h5, h6⟩ := h3
    have hv1 := h4.one
    go_wp2_with fail
    go_ret
    exact ⟨⟨v, rfl, h4⟩, h5, h6⟩
set_option maxRecDepth 100000 in
set_option maxHeartbeats 4000000 in
theorem pv_none (s : ByteArray) (dp a n : Nat) (c : UInt8) (hs : s.size ≤ 140737488351232) (ha : a ≤ s.size) (hc : s.data.toList[skipN s.data.toList a]? = some c) (hn : n < 16384) (hdp : dp ≤ 64) (hW : lowL.contains c = false) (hD : decL.contains c = false) (h9 : ∀ z ∈ ([43, 45, 34, 35, 64, 91, 123] : List UInt8), c ≠ z) : PvalC s dp a n (.error (skipN s.data.toList a, 3)) := by
  intro bp w h he
  have hsz := size_list s
  have hlt := h.lt
  have HN := Lib.hid (next_any bp s a n w h ha hs)
  have HF := Lib.hid (fun (b why : Nat) (W : World) => fail_any (.pointer (some ⟨bp, 0, none⟩)) bp b why rfl W)
  have HE := Lib.hid he
  obtain ⟨q, hq⟩ : ∃ q, q = skipN s.data.toList a := ⟨_, rfl⟩
  have HG : Hid (NextPost bp s a n w = fun e w' => e = .returned (.int .u8 (c.toNat : Int)) ∧ PaAt w' bp s q n ∧ Pside bp w w') := Lib.hid (by funext e w'; unfold NextPost; rw [hc, hq])
  rw [HG.out] at HN
  clear h he HG
  rw [← hq]
  clear hq
  obtain ⟨x, hx⟩ : ∃ x : Int, x = (c.toNat : Int) := ⟨_, rfl⟩
  rw [← hx] at HN
  have HX := Lib.hid hx
  have hn1 : ¬ (16384 : Int) ≤ (n : Int) := by omega
  have hd1 : ¬ (64 : Int) < (dp : Int) := by omega
  have e43 : (x == 43) = false := by rw [beq_eq_false_iff_ne]; intro h0; exact h9 43 (by simp) (UInt8.toNat_inj.1 (by show c.toNat = 43; omega))
  have e45 : (x == 45) = false := by rw [beq_eq_false_iff_ne]; intro h0; exact h9 45 (by simp) (UInt8.toNat_inj.1 (by show c.toNat = 45; omega))
  have e34 : (x == 34) = false := by rw [beq_eq_false_iff_ne]; intro h0; exact h9 34 (by simp) (UInt8.toNat_inj.1 (by show c.toNat = 34; omega))
  have e35 : (x == 35) = false := by rw [beq_eq_false_iff_ne]; intro h0; exact h9 35 (by simp) (UInt8.toNat_inj.1 (by show c.toNat = 35; omega))
  have e64 : (x == 64) = false := by rw [beq_eq_false_iff_ne]; intro h0; exact h9 64 (by simp) (UInt8.toNat_inj.1 (by show c.toNat = 64; omega))
  have e91 : (x == 91) = false := by rw [beq_eq_false_iff_ne]; intro h0; exact h9 91 (by simp) (UInt8.toNat_inj.1 (by show c.toNat = 91; omega))
  have e123 : (x == 123) = false := by rw [beq_eq_false_iff_ne]; intro h0; exact h9 123 (by simp) (UInt8.toNat_inj.1 (by show c.toNat = 123; omega))
  obtain ⟨jD, hjD⟩ : ∃ j, j = Lib.indexByte decL c := ⟨_, rfl⟩
  have HID := Lib.hid (fun (W : World) => (show Calls Tryz.prog 135 #[.string ⟨decL.toArray⟩, .int .u8 x] W (fun e w' => e = .returned (.int .i64 jD) ∧ W = w') by rw [hjD]; exact ix_any decL c x HX.out W))
  unfold decL at HID
  have hkD : jD < 0 := by
    by_cases h0 : 0 ≤ jD
    · exact absurd (idx_has.1 (by rw [← hjD]; exact h0)) (by rw [hD]; simp)
    · omega
  clear hjD
  obtain ⟨jW, hjW⟩ : ∃ j, j = Lib.indexByte lowL c := ⟨_, rfl⟩
  have HIW := Lib.hid (fun (W : World) => (show Calls Tryz.prog 135 #[.string ⟨lowL.toArray⟩, .int .u8 x] W (fun e w' => e = .returned (.int .i64 jW) ∧ W = w') by rw [hjW]; exact ix_any lowL c x HX.out W))
  unfold lowL at HIW
  have hkW : jW < 0 := by
    by_cases h0 : 0 ≤ jW
    · exact absurd (idx_has.1 (by rw [← hjW]; exact h0)) (by rw [hW]; simp)
    · omega
  clear hjW
  clear hc hx hD hW h9
  go_enter Tryz.func79, Tryz.ntmps79
  go_wp2_with fail
  refine HN.out.mono ?_
  rintro e w1 ⟨rfl, hpa, hps⟩
  have d1 := hpa.c1
  have d2 := hpa.c2
  have g2 := hpa.f 2
  have hlt1 := hpa.lt
  have HPA := Lib.hid (by have h9 := hpa.set2 (n + 1); simpa using h9 : PaAt (w1.setCell ⟨bp, 2, none⟩ (.int .i64 ((n : Int) + 1))) bp s q (n + 1))
  have HPS := Lib.hid (hps.set 2 (.int .i64 ((n : Int) + 1)))
  clear hpa hps
  go_wp2_with fail
  clear d1 d2 g2
  refine (HID.out _).mono ?_
  rintro e w9 ⟨rfl, rfl⟩
  go_wp2_with fail
  refine (HIW.out _).mono ?_
  rintro e w9 ⟨rfl, rfl⟩
  go_wp2_with fail
  refine (HF.out q 3 _).mono ?_
  rintro e w3 ⟨rfl, h3⟩
  exact ⟨rfl, v_bad rfl ⟨rfl, HPS.out.trans h3⟩⟩
end Go.Proofs.YtobpkelblpdajaaGreatDoor
