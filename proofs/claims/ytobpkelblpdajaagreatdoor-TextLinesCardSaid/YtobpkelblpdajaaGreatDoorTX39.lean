/- Walk: the parser: a whole number. -/
import Derived.Test.YtobpkelblpdajaaGreatDoorTX38
set_option linter.unusedVariables false
set_option linter.unusedSimpArgs false
set_option linter.unusedSectionVars false
namespace Go.Proofs.YtobpkelblpdajaaGreatDoor
open Go Go.RowKit
def numL : List UInt8 := [97, 98, 99, 100, 101, 102, 103, 104, 105, 106, 107, 108, 109, 110, 111, 112, 113, 114, 115, 116, 117, 118, 119, 120, 121, 122, 48, 49, 50, 51, 52, 53, 54, 55, 56, 57, 46, 43, 45]
def numW (L : List UInt8) (a : Nat) : List UInt8 := (L.drop a).take (runN numL L a)
theorem pint_ok (s : ByteArray) (v : Int) (hs : s.size ≤ 140737488351232) (h : Lib.parseIntB 64 s.data.toList = .ok v) (w : World) : Calls Tryz.prog 193 #[.string s, .int .i64 10, .int .i64 64] w (fun e w' => e = .returned (.tuple #[.int .i64 v, .nilIface]) ∧ Below w.heap.size w w') := by
  refine (Tryz.strconv_ParseInt_10_at64_ok s (by omega) v h w).mono ?_
  rintro e w' ⟨rfl, rfl | ⟨t, rfl⟩⟩
  · exact ⟨rfl, Below.refl _ _⟩
  · exact ⟨rfl, bytes_below _ _ _⟩
set_option maxRecDepth 100000 in
set_option maxHeartbeats 4000000 in
theorem number_int (bp : Nat) (s : ByteArray) (a n : Nat) (v : Int) (w : World) (h : PaAt w bp s a n) (ha : a ≤ s.size) (hs : s.size ≤ 140737488351232) (hP : Pow w) (g3 : 4 ≠ bp) (hv : i64B v) (hp : Lib.parseIntB 64 (numW s.data.toList a) = .ok v) (hi : Lib.itoa v = numW s.data.toList a) : Calls Tryz.prog 136 #[.pointer (some ⟨bp, 0, none⟩)] w (VPost bp s (.ok (.int v, a + runN numL s.data.toList a, n)) w) := by
  have hsz := size_list s
  have hlt := h.lt
  have c1 := h.c1
  have HRun := Lib.hid (run_any bp s ⟨numL.toArray⟩ a n _ h (by omega) hs)
  have hrl := runN_le (p := numL) (L := s.data.toList) (a := a) (by omega)
  unfold numW at hp hi
  obtain ⟨k, hk⟩ : ∃ k, k = runN numL s.data.toList a := ⟨_, rfl⟩
  have hk2 : runN (⟨numL.toArray⟩ : ByteArray).data.toList s.data.toList a = k := by rw [hk]
  unfold RunPost at HRun
  rw [hk2] at HRun
  rw [← hk] at hp hi ⊢
  obtain ⟨ws, hws⟩ : ∃ ws, ws = s.extract a (a + k) := ⟨_, rfl⟩
  have hwz : ws.size = k := by rw [hws]; simp [ByteArray.size_extract]; omega
  have hwd : ws.data.toList = (s.data.toList.drop a).take k := by rw [hws, run_slice _ _ _ (by omega)]
  rw [← hwd] at hp hi
  rw [← hws] at HRun
  have hwl : ws.size ≤ 140737488351232 := by omega
  have HPo := Lib.hid (fun (W : World) (hp : Pside bp w W) => Pow.pside hP hp g3)
  have HCu := Lib.hid (fun (W : World) => pint_ok ws v hwl hp W)
  have HFm := Lib.hid (fun (W : World) (hp : Pow W) => Fint10 v hv.1 hv.2 W hp)
  have hst : (⟨(Lib.itoa v).toArray⟩ : ByteArray) = ws := by rw [hi]
  have HV := Lib.hid hv
  unfold TextPost at HFm
  rw [hst] at HFm
  unfold numL at HRun
  clear h hk hk2 hws hP hp hi hst hwd hwz hv
  go_enter Tryz.func136, Tryz.ntmps136
  go_wp2_with fail
  refine HRun.out.mono ?_
  rintro e w1 ⟨rfl, hpa, hps⟩
  have HPA := Lib.hid hpa
  have HPS := Lib.hid hps
  clear hpa hps
  go_wp2_with fail
  refine (HCu.out _).mono ?_
  rintro e w2 ⟨rfl, hb2⟩
  have hps2 := HPS.out.trans (Pside.of_below hb2)
  have hpa2 := HPA.out.below hb2
  have HPo2 := Lib.hid (HPo.out w2 hps2)
  have HS2 := Lib.hid hps2
  have HA2 := Lib.hid hpa2
  clear hb2 hps2 hpa2
  go_wp2_with fail
  refine (HFm.out _ HPo2.out).mono ?_
  rintro e w3 ⟨rfl, hb3⟩
  have HS3 := Lib.hid (HS2.out.trans (Pside.of_below hb3))
  have HA3 := Lib.hid (HA2.out.below hb3)
  clear hb3
  go_wp2_with fail
  go_ret
  exact v_ok rfl rfl ⟨rfl, HV.out⟩ HA3.out HS3.out
end Go.Proofs.YtobpkelblpdajaaGreatDoor
/- Walk: the parser: a value, by its first byte. -/
namespace Go.Proofs.YtobpkelblpdajaaGreatDoor
open Go Go.RowKit
/- What the parser leans on; none of it lies in the parser's block. -/
structure Penv (w : World) (bp : Nat) : Prop where
  esc : Esc w
  errs : Errs w
  pow : Pow w
  deb : DeB w
  n1 : 1 ≠ bp
  n2 : 7 ≠ bp
  n3 : 8 ≠ bp
  n4 : 4 ≠ bp
  n5 : 10 ≠ bp
theorem Penv.pside {w w2 : World} {bp : Nat} (h : Penv w bp) (hp : Pside bp w w2) : Penv w2 bp :=
  ⟨h.esc.pside hp h.n1, h.errs.pside hp h.n2 h.n3, h.pow.pside hp h.n4, ⟨Nat.lt_of_lt_of_le h.deb.1 hp.size, (hp.cell (p := ⟨10, 15, none⟩) h.deb.1 h.n5).trans h.deb.2⟩, h.n1, h.n2, h.n3, h.n4, h.n5⟩
/- What a method of the parser that takes nothing does from a place on. -/
def MethC (f : FuncId) (s : ByteArray) (a n : Nat) (r : Rd1) : Prop := ∀ (bp : Nat) (w : World), PaAt w bp s a n → Penv w bp → Calls Tryz.prog f #[.pointer (some ⟨bp, 0, none⟩)] w (VPost bp s r w)
def MethD (f : FuncId) (s : ByteArray) (dp a n : Nat) (r : Rd1) : Prop := ∀ (bp : Nat) (w : World), PaAt w bp s a n → Penv w bp → Calls Tryz.prog f #[.pointer (some ⟨bp, 0, none⟩), .int .i64 dp] w (VPost bp s r w)
def PvalC (s : ByteArray) (dp a n : Nat) (r : Rd1) : Prop := MethD 79 s dp a n r
/- The dict that is read, as the program hands it on. -/
def DictC (s : ByteArray) (dp a n : Nat) (r : Rd1) : Prop := ∀ (bp : Nat) (w : World), PaAt w bp s a n → Penv w bp → Calls Tryz.prog 142 #[.pointer (some ⟨bp, 0, none⟩), .int .i64 dp] w (fun e w' => match r with
  | .error (a, why) => Gives bp a why w e w'
  | .ok (x, q, n) => (∃ v, e = .returned v ∧ RdS w' (New w w') x (.iface 41 v) ∧ v.oneCell' = true) ∧ PaAt w' bp s q n ∧ Pside bp w w')
theorem new_pside {w w1 w2 : World} (h : w.heap.size ≤ w1.heap.size) : ∀ b, New w1 w2 b → New w w2 b := fun b hb => ⟨Nat.le_trans h hb.1, hb.2⟩
theorem VPost.after {bp : Nat} {s : ByteArray} {r : Rd1} {w w1 w2 : World} {e : Ending} (h : VPost bp s r w1 e w2) (hp : Pside bp w w1) : VPost bp s r w e w2 := by
  unfold VPost at *
  match r with
  | .error (a, why) => exact ⟨h.1, hp.trans h.2⟩
  | .ok (x, q, n) => obtain ⟨⟨v, h1, h2⟩, h3, h4⟩ := h; exact ⟨⟨v, h1, RdS.more (new_pside hp.size) _ _ h2⟩, h3, hp.trans h4⟩
set_option maxRecDepth 100000 in
set_option maxHeartbeats 4000000 in
theorem pv_bytes (s : ByteArray) (dp a n : Nat) (r : Rd1) (hs : s.size ≤ 140737488351232) (ha : a ≤ s.size) (hc : s.data.toList[skipN s.data.toList a]? = some 35) (hn : n < 16384) (hdp : dp ≤ 64) (hr : MethC 139 s (skipN s.data.toList a) (n + 1) r) : PvalC s dp a n r := by
  intro bp w h he
  have hsz := size_list s
  have hlt := h.lt
  have HN := Lib.hid (next_any bp s a n w h ha hs)
  have HF := Lib.hid (fun (b why : Nat) (W : World) => fail_any (.pointer (some ⟨bp, 0, none⟩)) bp b why rfl W)
  have HE := Lib.hid he
  obtain ⟨c, hcc⟩ : ∃ c : UInt8, c = 35 := ⟨_, rfl⟩
  rw [← hcc] at hc
  obtain ⟨q, hq⟩ : ∃ q, q = skipN s.data.toList a := ⟨_, rfl⟩
  have HG : Hid (NextPost bp s a n w = fun e w' => e = .returned (.int .u8 (c.toNat : Int)) ∧ PaAt w' bp s q n ∧ Pside bp w w') := Lib.hid (by funext e w'; unfold NextPost; rw [hc, hq])
  rw [HG.out] at HN
  clear h he HG
  rw [← hq] at hr
  have HR := Lib.hid (fun (W : World) (h1 : PaAt W bp s q (n + 1)) (h2 : Penv W bp) => hr bp W h1 h2)
  clear hr hq
  obtain ⟨x, hx⟩ : ∃ x : Int, x = (c.toNat : Int) := ⟨_, rfl⟩
  rw [← hx] at HN
  have HX := Lib.hid hx
  have hn1 : ¬ (16384 : Int) ≤ (n : Int) := by omega
  have hd1 : ¬ (64 : Int) < (dp : Int) := by omega
  have hx9 : x = 35 := by rw [hx, hcc]; rfl
  have e43 : (x == 43) = false := by rw [hx9]; rfl
  have e45 : (x == 45) = false := by rw [hx9]; rfl
  have e34 : (x == 34) = false := by rw [hx9]; rfl
  have e35 : (x == 35) = true := by rw [hx9]; rfl
  have hD : decL.contains c = false := by rw [hcc]; rfl
  have hW : lowL.contains c = false := by rw [hcc]; rfl
  obtain ⟨jD, hjD⟩ : ∃ j, j = Lib.indexByte decL c := ⟨_, rfl⟩
  have HID := Lib.hid (fun (W : World) => (show Calls Tryz.prog 135 #[.string ⟨decL.toArray⟩, .int .u8 x] W (fun e w' => e = .returned (.int .i64 jD) ∧ W = w') by rw [hjD]; exact ix_any decL c x HX.out W))
  unfold decL at HID
  have hkD : jD < 0 := by
    by_cases h0 : 0 ≤ jD
    · exact absurd (idx_has.1 (by rw [← hjD]; exact h0)) (by rw [hD]; simp)
    · omega
  clear hjD
  obtain ⟨jW, hjW⟩ : ∃ j, j = Lib.indexByte lowL c := ⟨_, rfl⟩
  have HIW := Lib.hid (fun (W : World) => (show Calls Tryz.prog 135 #[.string ⟨lowL.toArray⟩, .int .u8 x] W (fun e w' => e = .returned (.int .i64 jW) ∧ W = w') by rw [hjW]; exact ix_any lowL c x HX.out W))
  unfold lowL at HIW
  have hkW : jW < 0 := by
    by_cases h0 : 0 ≤ jW
    · exact absurd (idx_has.1 (by rw [← hjW]; exact h0)) (by rw [hW]; simp)
    · omega
  clear hjW
  clear hc hx hcc hx9 hD hW
  go_enter Tryz.func79, Tryz.ntmps79
  go_wp2_with fail
  refine HN.out.mono ?_
  rintro e w1 ⟨rfl, hpa, hps⟩
  have d1 := hpa.c1
  have d2 := hpa.c2
  have g2 := hpa.f 2
  have hlt1 := hpa.lt
  have HPA := Lib.hid (by have h9 := hpa.set2 (n + 1); simpa using h9 : PaAt (w1.setCell ⟨bp, 2, none⟩ (.int .i64 ((n : Int) + 1))) bp s q (n + 1))
  have HPS := Lib.hid (hps.set 2 (.int .i64 ((n : Int) + 1)))
  clear hpa hps
  go_wp2_with fail
  clear d1 d2 g2
  refine (HID.out _).mono ?_
  rintro e w9 ⟨rfl, rfl⟩
  go_wp2_with fail
  refine (HIW.out _).mono ?_
  rintro e w9 ⟨rfl, rfl⟩
  go_wp2_with fail
  refine (HR.out _ HPA.out (HE.out.pside HPS.out)).mono ?_
  intro e w2 h2
  have h3 := h2.after HPS.out
  clear h2
  cases r with
  | error z =>
    obtain ⟨rfl, h4⟩ := h3
    exact ⟨rfl, rfl, h4⟩
  | ok z =>
    obtain ⟨⟨v, rfl, h4⟩, h5, h6⟩ := h3
    have hv1 := h4.one
    go_wp2_with fail
    go_ret
    exact ⟨⟨v, rfl, h4⟩, h5, h6⟩
end Go.Proofs.YtobpkelblpdajaaGreatDoor
