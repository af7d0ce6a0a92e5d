/- Walks: the parser: references, versions. -/
import Derived.Test.YtobpkelblpdajaaGreatDoorTX36
import Derived.Test.YtobpkelblpdajaaGreatDoorTX37
import Derived.Test.YtobpkelblpdajaaGreatDoorTX16
set_option linter.unusedVariables false
set_option linter.unusedSimpArgs false
set_option linter.unusedSectionVars false
namespace Go.Proofs.YtobpkelblpdajaaGreatDoor
open Go Go.RowKit
def Face (v : Value) : Prop := v = .nilIface ∨ ∃ t p, v = .iface t p
/- What the library's two errors' variables hold is an error or nil. -/
def Errs (w : World) : Prop := (∃ ev, w.cell? ⟨7, 0, none⟩ = some ev ∧ Face ev) ∧ (∃ ev, w.cell? ⟨8, 0, none⟩ = some ev ∧ Face ev)
theorem Errs.pside {w w2 : World} {bp : Nat} (h : Errs w) (hp : Pside bp w w2) (h1 : 7 ≠ bp) (h2 : 8 ≠ bp) : Errs w2 := by
  obtain ⟨⟨e1, c1, f1⟩, ⟨e2, c2, f2⟩⟩ := h
  exact ⟨⟨e1, (hp.cell (p := ⟨7, 0, none⟩) (cells_lt c1) h1).trans c1, f1⟩, ⟨e2, (hp.cell (p := ⟨8, 0, none⟩) (cells_lt c2) h2).trans c2, f2⟩⟩
theorem Errs.below {w w2 : World} (h : Errs w) (hb : Below w.heap.size w w2) : Errs w2 := by
  obtain ⟨⟨e1, c1, f1⟩, ⟨e2, c2, f2⟩⟩ := h
  exact ⟨⟨e1, (hb.cell (p := ⟨7, 0, none⟩) (cells_lt c1)).trans c1, f1⟩, ⟨e2, (hb.cell (p := ⟨8, 0, none⟩) (cells_lt c2)).trans c2, f2⟩⟩
theorem toList_data_eq {a b : ByteArray} (h : a.toList = b.toList) : a.data.toList = b.data.toList := by
  rw [bytes_toList, bytes_toList] at h
  exact h
theorem Pow.pside {w w2 : World} {bp : Nat} (h : Pow w) (hp : Pside bp w w2) (h1 : 4 ≠ bp) : Pow w2 := by
  refine ⟨Nat.lt_of_lt_of_le h.1 hp.size, ?_⟩
  have h2 := h.2
  unfold Lib.TabIs World.var? at *
  rw [Tryz.gPow] at *
  simp only [Option.bind_some] at *
  rw [hp.block _ h.1 h1]
  exact h2
theorem atoi_ok (s : ByteArray) (v : Int) (hs : s.size ≤ 140737488351232) (h : Lib.atoiAll s.data.toList = .ok v) (w : World) : Calls Tryz.prog 260 #[.string s] w (fun e w' => e = .returned (.tuple #[.int .i64 v, .nilIface]) ∧ Below w.heap.size w w') := by
  refine (Tryz.strconv_Atoi_ok s (by omega) v h w).mono ?_
  rintro e w' ⟨rfl, rfl | ⟨t, rfl⟩⟩
  · exact ⟨rfl, Below.refl _ _⟩
  · exact ⟨rfl, bytes_below _ _ _⟩
theorem atoi_err (s : ByteArray) (hs : s.size ≤ 140737488351232) (h : ∀ u, Lib.atoiAll s.data.toList ≠ .ok u) (w : World) (he : Errs w) : Calls Tryz.prog 260 #[.string s] w (fun e w' => ∃ (x : Int) (N : Nat), e = .returned (.tuple #[.int .i64 x, .iface 395 (.pointer (some ⟨N, 0, none⟩))]) ∧ Below w.heap.size w w') := by
  obtain ⟨⟨e1, c1, f1⟩, ⟨e2, c2, f2⟩⟩ := he
  cases hp : Lib.atoiAll s.data.toList
  · exact absurd hp (h _)
  · refine (Tryz.strconv_Atoi_syntax s (by omega) ⟨h, by rw [hp]; intro e; cases e⟩ e1 w c1 f1).mono ?_
    rintro e w' ⟨N, rfl, -, -, hb⟩
    exact ⟨0, N, rfl, hb⟩
  · refine (Tryz.strconv_Atoi_range s (by omega) hp e2 w c2 f2).mono ?_
    rintro e w' ⟨N, rfl, -, -, hb⟩
    exact ⟨_, N, rfl, hb⟩
/- A record's version. -/
open Classical in
noncomputable def verP (L : List UInt8) (a : Nat) : Except (Nat × Nat) (Int × Nat) :=
  let l := (L.drop a).take (runN decL L a)
  if l = [] ∧ a = L.length then .error (a, 4)
  else if l = [] ∨ (l.head? = some 48 ∧ l ≠ [48]) then .error (a, 3)
  else if h : ∃ v : Int, Lib.atoiAll l = .ok v ∧ 1 ≤ v ∧ v ≤ 1000 then .ok (h.choose, a + runN decL L a)
  else .error (a, 1)
def VerPost (bp : Nat) (s : ByteArray) (n : Nat) (r : Except (Nat × Nat) (Int × Nat)) (w : World) (e : Ending) (w' : World) : Prop := match r with
  | .error (a, why) => Gives bp a why w e w'
  | .ok (v, q) => e = .returned (.int .i64 v) ∧ PaAt w' bp s q n ∧ Pside bp w w'
theorem ver_ok {bp : Nat} {s : ByteArray} {n q : Nat} {r : Except (Nat × Nat) (Int × Nat)} {v : Int} {w w' : World} {e : Ending} (h : r = .ok (v, q)) (he : e = .returned (.int .i64 v)) (hp : PaAt w' bp s q n) (hs : Pside bp w w') : VerPost bp s n r w e w' := by subst h; exact ⟨he, hp, hs⟩
theorem ver_bad {bp : Nat} {s : ByteArray} {n a why : Nat} {r : Except (Nat × Nat) (Int × Nat)} {w w' : World} {e : Ending} (h : r = .error (a, why)) (hg : Gives bp a why w e w') : VerPost bp s n r w e w' := by subst h; exact hg
theorem verP_ok {L : List UInt8} {a : Nat} {l : List UInt8} {v : Int} (hl : l = (L.drop a).take (runN decL L a)) (h1 : l ≠ []) (h2 : ¬ (l.head? = some 48 ∧ l ≠ [48])) (h : Lib.atoiAll l = .ok v) (hv : 1 ≤ v ∧ v ≤ 1000) : verP L a = .ok (v, a + runN decL L a) := by
  subst hl
  have hex : ∃ v : Int, Lib.atoiAll ((L.drop a).take (runN decL L a)) = .ok v ∧ 1 ≤ v ∧ v ≤ 1000 := ⟨v, h, hv⟩
  unfold verP
  simp only
  rw [if_neg (fun h => h1 h.1), if_neg (fun h => h.elim h1 h2), dif_pos hex]
  have h3 := hex.choose_spec.1.symm.trans h
  injection h3 with h3
  rw [h3]
theorem verP_arg {L : List UInt8} {a : Nat} {l : List UInt8} (hl : l = (L.drop a).take (runN decL L a)) (h1 : l ≠ []) (h2 : ¬ (l.head? = some 48 ∧ l ≠ [48])) (h : ∀ v, Lib.atoiAll l = .ok v → ¬ (1 ≤ v ∧ v ≤ 1000)) : verP L a = .error (a, 1) := by
  subst hl
  unfold verP
  simp only
  rw [if_neg (fun h => h1 h.1), if_neg (fun h => h.elim h1 h2), dif_neg (by rintro ⟨v, g1, g2⟩; exact h v g1 g2)]
set_option maxRecDepth 100000 in
set_option maxHeartbeats 4000000 in
theorem version_any (bp : Nat) (s : ByteArray) (a n : Nat) (w : World) (h : PaAt w bp s a n) (ha : a ≤ s.size) (hs : s.size ≤ 140737488351232) (hE : Errs w) (g1 : 7 ≠ bp) (g2 : 8 ≠ bp) : Calls Tryz.prog 197 #[.pointer (some ⟨bp, 0, none⟩)] w (VerPost bp s n (verP s.data.toList a) w) := by
  have hsz := size_list s
  have hlt := h.lt
  have c1 := h.c1
  have HF := Lib.hid (fun (b why : Nat) (W : World) => fail_any (.pointer (some ⟨bp, 0, none⟩)) bp b why rfl W)
  have HRun := Lib.hid (run_any bp s ⟨decL.toArray⟩ a n _ h (by omega) hs)
  have hrl := runN_le (p := decL) (L := s.data.toList) (a := a) (by omega)
  obtain ⟨k, hk⟩ : ∃ k, k = runN decL s.data.toList a := ⟨_, rfl⟩
  have hk2 : runN (⟨decL.toArray⟩ : ByteArray).data.toList s.data.toList a = k := by rw [hk]
  unfold RunPost at HRun
  rw [hk2] at HRun
  obtain ⟨ws, hws⟩ : ∃ ws, ws = s.extract a (a + k) := ⟨_, rfl⟩
  have hwz : ws.size = k := by rw [hws]; simp [ByteArray.size_extract]; omega
  have HWD : Hid (ws.data.toList = (s.data.toList.drop a).take (runN decL s.data.toList a)) := Lib.hid (by rw [hws, ← hk, run_slice _ _ _ (by omega)])
  rw [← hws] at HRun
  have HK := Lib.hid hk
  have hwl : ws.size ≤ 140737488351232 := by omega
  have HEr := Lib.hid (fun (W : World) (hp : Pside bp w W) => hE.pside hp g1 g2)
  have hwsl := size_list ws
  unfold decL at HRun
  clear h hk hk2 hws hE
  by_cases h0 : k = 0
  · have hnil : ws.data.toList = [] := List.eq_nil_of_length_eq_zero (by omega)
    have hws0 : ws = ⟨#[]⟩ := by cases ws with | mk d => cases d with | mk l => simp at hnil; subst hnil; rfl
    subst h0
    by_cases hend : a = s.size
    · have HPO : Hid (verP s.data.toList a = .error (a, 4)) := Lib.hid (by
        unfold verP; simp only; rw [← HWD.out, if_pos ⟨hnil, by omega⟩])
      generalize verP s.data.toList a = R at *
      have hd1 : (a == s.size) = true := by rw [beq_iff_eq]; exact hend
      have hd2 : ((a : Int) == (s.size : Int)) = true := by rw [beq_iff_eq]; omega
      subst hws0
      have HEN := Lib.hid hend
      clear hnil hend hwsl hwz
      go_enter Tryz.func197, Tryz.ntmps197
      go_wp2_with fail
      refine HRun.out.mono ?_
      rintro e w1 ⟨rfl, hpa, hps⟩
      have e0 := hpa.c0
      have e1 := hpa.c1
      go_wp2_with fail
      go_quiet (fail)
      go_wp2_with fail
      refine (HF.out a 4 _).mono ?_
      rintro e w3 ⟨rfl, h3⟩
      exact ⟨rfl, ver_bad HPO.out ⟨rfl, (hps.drewN _).trans h3⟩⟩
    · have HPO : Hid (verP s.data.toList a = .error (a, 3)) := Lib.hid (by
        unfold verP; simp only; rw [← HWD.out, if_neg (by rintro ⟨-, h⟩; omega), if_pos (.inl hnil)])
      generalize verP s.data.toList a = R at *
      have hd1 : (a == s.size) = false := by rw [beq_eq_false_iff_ne]; exact hend
      have hd2 : ((a : Int) == (s.size : Int)) = false := by rw [beq_eq_false_iff_ne]; omega
      subst hws0
      clear hnil hend hwsl hwz
      go_enter Tryz.func197, Tryz.ntmps197
      go_wp2_with fail
      refine HRun.out.mono ?_
      rintro e w1 ⟨rfl, hpa, hps⟩
      have e0 := hpa.c0
      have e1 := hpa.c1
      go_wp2_with fail
      go_quiet (fail)
      go_wp2_with fail
      refine (HF.out a 3 _).mono ?_
      rintro e w3 ⟨rfl, h3⟩
      exact ⟨rfl, ver_bad HPO.out ⟨rfl, (hps.drewN _).trans h3⟩⟩
  · cases hwc : ws.data.toList with
    | nil => rw [hwc] at hwsl; simp at hwsl; omega
    | cons c r =>
      have hne : ws.toList.isEmpty = false := isEmpty_of (by omega)
      obtain ⟨x, hx⟩ : ∃ x : Int, x = (c.toNat : Int) := ⟨_, rfl⟩
      have hix : ∀ W : World, (Instr.index 9 (.string ws) (.int .i64 0)).run Tryz.prog W = .ok (.int .u8 x) W := fun W => index_at (q := 0) (by rw [hwc]; rfl) hx W
      have hl0 : ws.data.toList ≠ [] := by rw [hwc]; simp
      by_cases h48 : x = 48
      · have hc : c = 48 := UInt8.toNat_inj.1 (by show c.toNat = 48; omega)
        have hq48 : (x == 48) = true := by rw [beq_iff_eq]; exact h48
        by_cases hr : r = []
        · have hws1 : ws = ⟨#[48]⟩ := by cases ws with | mk d => cases d with | mk l => simp at hwc; subst hwc; rw [hc, hr]
          have hl48 : ¬ (ws.data.toList.head? = some 48 ∧ ws.data.toList ≠ [48]) := by rw [hwc, hr, hc]; rintro ⟨-, h⟩; exact h rfl
          have e48 : ws.toList = [48] := by rw [bytes_toList, hws1]
          have hz2 : (ws.toList == [48]) = true := by rw [beq_iff_eq]; exact e48
          have hz3 : (ws.toList != [48]) = false := by rw [bne_eq_false_iff_eq]; exact e48
          have hz1 : (ws.toList != (⟨#[48]⟩ : ByteArray).toList) = false := by rw [hws1]; simp
          clear hwc hx h48 hc hr hws1 hwsl e48
          by_cases hat : ∃ v, Lib.atoiAll ws.data.toList = .ok v
          · obtain ⟨v, hat⟩ := hat
            have HAt := Lib.hid (fun (W : World) => atoi_ok ws v hwl hat W)
            by_cases hv : 1 ≤ v ∧ v ≤ 1000
            · have HPO : Hid (verP s.data.toList a = .ok (v, a + k)) := Lib.hid (by rw [HK.out]; exact verP_ok HWD.out hl0 hl48 hat hv)
              generalize verP s.data.toList a = R at *
              have hv1 : ¬ v < 1 := by omega
              have hv2 : ¬ 1000 < v := by omega
              clear hat hv hl0 hl48
              go_enter Tryz.func197, Tryz.ntmps197
              go_wp2_with fail
              refine HRun.out.mono ?_
              rintro e w1 ⟨rfl, hpa, hps⟩
              have e0 := hpa.c0
              have e1 := hpa.c1
              have HPA := Lib.hid hpa
              have HPS := Lib.hid hps
              clear hpa hps
              go_wp2_with fail
              go_quiet (fail)
              clear e0 e1
              go_wp2_with fail
              refine (HAt.out _).mono ?_
              rintro e w2 ⟨rfl, hb2⟩
              have HS2 := Lib.hid ((HPS.out.drewN _).trans (Pside.of_below hb2))
              have HA2 := Lib.hid ((HPA.out.drewN _).below hb2)
              clear hb2
              go_wp2_with fail
              go_ret
              exact ver_ok HPO.out rfl HA2.out HS2.out
            · have HPO : Hid (verP s.data.toList a = .error (a, 1)) := Lib.hid (verP_arg HWD.out hl0 hl48 (fun v2 h2 => by rw [hat] at h2; injection h2 with h2; subst h2; exact hv))
              generalize verP s.data.toList a = R at *
              by_cases hv1 : v < 1
              · clear hat hv hl0 hl48
                go_enter Tryz.func197, Tryz.ntmps197
                go_wp2_with fail
                refine HRun.out.mono ?_
                rintro e w1 ⟨rfl, hpa, hps⟩
                have e0 := hpa.c0
                have e1 := hpa.c1
                have HPA := Lib.hid hpa
                have HPS := Lib.hid hps
                clear hpa hps
                go_wp2_with fail
                go_quiet (fail)
                clear e0 e1
                go_wp2_with fail
                refine (HAt.out _).mono ?_
                rintro e w2 ⟨rfl, hb2⟩
                have HS2 := Lib.hid ((HPS.out.drewN _).trans (Pside.of_below hb2))
                have HA2 := Lib.hid ((HPA.out.drewN _).below hb2)
                clear hb2
                go_wp2_with fail
                refine (HF.out a 1 _).mono ?_
                rintro e w3 ⟨rfl, h3⟩
                exact ⟨rfl, ver_bad HPO.out ⟨rfl, HS2.out.trans h3⟩⟩
              · have hv2 : 1000 < v := by omega
                clear hat hv hl0 hl48
                go_enter Tryz.func197, Tryz.ntmps197
                go_wp2_with fail
                refine HRun.out.mono ?_
                rintro e w1 ⟨rfl, hpa, hps⟩
                have e0 := hpa.c0
                have e1 := hpa.c1
                have HPA := Lib.hid hpa
                have HPS := Lib.hid hps
                clear hpa hps
                go_wp2_with fail
                go_quiet (fail)
                clear e0 e1
                go_wp2_with fail
                refine (HAt.out _).mono ?_
                rintro e w2 ⟨rfl, hb2⟩
                have HS2 := Lib.hid ((HPS.out.drewN _).trans (Pside.of_below hb2))
                have HA2 := Lib.hid ((HPA.out.drewN _).below hb2)
                clear hb2
                go_wp2_with fail
                refine (HF.out a 1 _).mono ?_
                rintro e w3 ⟨rfl, h3⟩
                exact ⟨rfl, ver_bad HPO.out ⟨rfl, HS2.out.trans h3⟩⟩
          · have HAt := Lib.hid (fun (W : World) (he : Errs W) => atoi_err ws hwl (fun u h => hat ⟨u, h⟩) W he)
            have HPO : Hid (verP s.data.toList a = .error (a, 1)) := Lib.hid (verP_arg HWD.out hl0 hl48 (fun v2 h2 => absurd ⟨v2, h2⟩ hat))
            generalize verP s.data.toList a = R at *
            clear hat hl0 hl48
            go_enter Tryz.func197, Tryz.ntmps197
            go_wp2_with fail
            refine HRun.out.mono ?_
            rintro e w1 ⟨rfl, hpa, hps⟩
            have e0 := hpa.c0
            have e1 := hpa.c1
            have HPA := Lib.hid hpa
            have HPS := Lib.hid hps
            clear hpa hps
            go_wp2_with fail
            go_quiet (fail)
            clear e0 e1
            go_wp2_with fail
            refine (HAt.out _ (HEr.out _ (HPS.out.drewN _))).mono ?_
            rintro e w2 ⟨x, N, rfl, hb2⟩
            have HS2 := Lib.hid ((HPS.out.drewN _).trans (Pside.of_below hb2))
            clear hb2
            go_wp2_with fail
            refine (HF.out a 1 _).mono ?_
            rintro e w3 ⟨rfl, h3⟩
            exact ⟨rfl, ver_bad HPO.out ⟨rfl, HS2.out.trans h3⟩⟩
        · have HPO : Hid (verP s.data.toList a = .error (a, 3)) := Lib.hid (by
            unfold verP; simp only; rw [← HWD.out, if_neg (fun h => hl0 h.1), if_pos (.inr (by rw [hwc, hc]; exact ⟨rfl, by simpa using hr⟩))])
          generalize verP s.data.toList a = R at *
          have hz1 : (ws.toList != (⟨#[48]⟩ : ByteArray).toList) = true := by
            rw [bne_iff_ne]
            intro e
            have := toList_data_eq e
            rw [hwc] at this
            injection this with _ h2
            exact hr h2
          have hz2 : ¬ ws.toList = [48] := fun e => by
            rw [bytes_toList, hwc] at e
            injection e with _ h2
            exact hr h2
          have hz3 : (ws.toList == [48]) = false := by rw [beq_eq_false_iff_ne]; exact hz2
          have hz4 : (ws.toList != [48]) = true := by rw [bne_iff_ne]; exact hz2
          clear hwc hx h48 hc hr hwsl hl0
          go_enter Tryz.func197, Tryz.ntmps197
          go_wp2_with fail
          refine HRun.out.mono ?_
          rintro e w1 ⟨rfl, hpa, hps⟩
          have e0 := hpa.c0
          have e1 := hpa.c1
          have HPA := Lib.hid hpa
          have HPS := Lib.hid hps
          clear hpa hps
          go_wp2_with fail
          go_quiet (fail)
          clear e0 e1
          go_wp2_with fail
          refine (HF.out a 3 _).mono ?_
          rintro e w3 ⟨rfl, h3⟩
          exact ⟨rfl, ver_bad HPO.out ⟨rfl, (HPS.out.drewN _).trans h3⟩⟩
      · have hq48 : (x == 48) = false := by rw [beq_eq_false_iff_ne]; exact h48
        have hl48 : ¬ (ws.data.toList.head? = some 48 ∧ ws.data.toList ≠ [48]) := by
          rw [hwc]; rintro ⟨h, -⟩
          injection h with h
          exact h48 (by rw [hx, h]; rfl)
        clear hwc hx h48 hwsl
        by_cases hat : ∃ v, Lib.atoiAll ws.data.toList = .ok v
        · obtain ⟨v, hat⟩ := hat
          have HAt := Lib.hid (fun (W : World) => atoi_ok ws v hwl hat W)
          by_cases hv : 1 ≤ v ∧ v ≤ 1000
          · have HPO : Hid (verP s.data.toList a = .ok (v, a + k)) := Lib.hid (by rw [HK.out]; exact verP_ok HWD.out hl0 hl48 hat hv)
            generalize verP s.data.toList a = R at *
            have hv1 : ¬ v < 1 := by omega
            have hv2 : ¬ 1000 < v := by omega
            clear hat hv hl0 hl48
            go_enter Tryz.func197, Tryz.ntmps197
            go_wp2_with fail
            refine HRun.out.mono ?_
            rintro e w1 ⟨rfl, hpa, hps⟩
            have e0 := hpa.c0
            have e1 := hpa.c1
            have HPA := Lib.hid hpa
            have HPS := Lib.hid hps
            clear hpa hps
            go_wp2_with fail
            go_quiet (fail)
            clear e0 e1
            go_wp2_with fail
            refine (HAt.out _).mono ?_
            rintro e w2 ⟨rfl, hb2⟩
            have HS2 := Lib.hid ((HPS.out.drewN _).trans (Pside.of_below hb2))
            have HA2 := Lib.hid ((HPA.out.drewN _).below hb2)
            clear hb2
            go_wp2_with fail
            go_ret
            exact ver_ok HPO.out rfl HA2.out HS2.out
          · have HPO : Hid (verP s.data.toList a = .error (a, 1)) := Lib.hid (verP_arg HWD.out hl0 hl48 (fun v2 h2 => by rw [hat] at h2; injection h2 with h2; subst h2; exact hv))
            generalize verP s.data.toList a = R at *
            by_cases hv1 : v < 1
            · clear hat hv hl0 hl48
              go_enter Tryz.func197, Tryz.ntmps197
              go_wp2_with fail
              refine HRun.out.mono ?_
              rintro e w1 ⟨rfl, hpa, hps⟩
              have e0 := hpa.c0
              have e1 := hpa.c1
              have HPA := Lib.hid hpa
              have HPS := Lib.hid hps
              clear hpa hps
              go_wp2_with fail
              go_quiet (fail)
              clear e0 e1
              go_wp2_with fail
              refine (HAt.out _).mono ?_
              rintro e w2 ⟨rfl, hb2⟩
              have HS2 := Lib.hid ((HPS.out.drewN _).trans (Pside.of_below hb2))
              have HA2 := Lib.hid ((HPA.out.drewN _).below hb2)
              clear hb2
              go_wp2_with fail
              refine (HF.out a 1 _).mono ?_
              rintro e w3 ⟨rfl, h3⟩
              exact ⟨rfl, ver_bad HPO.out ⟨rfl, HS2.out.trans h3⟩⟩
            · have hv2 : 1000 < v := by omega
              clear hat hv hl0 hl48
              go_enter Tryz.func197, Tryz.ntmps197
              go_wp2_with fail
              refine HRun.out.mono ?_
              rintro e w1 ⟨rfl, hpa, hps⟩
              have e0 := hpa.c0
              have e1 := hpa.c1
              have HPA := Lib.hid hpa
              have HPS := Lib.hid hps
              clear hpa hps
              go_wp2_with fail
              go_quiet (fail)
              clear e0 e1
              go_wp2_with fail
              refine (HAt.out _).mono ?_
              rintro e w2 ⟨rfl, hb2⟩
              have HS2 := Lib.hid ((HPS.out.drewN _).trans (Pside.of_below hb2))
              have HA2 := Lib.hid ((HPA.out.drewN _).below hb2)
              clear hb2
              go_wp2_with fail
              refine (HF.out a 1 _).mono ?_
              rintro e w3 ⟨rfl, h3⟩
              exact ⟨rfl, ver_bad HPO.out ⟨rfl, HS2.out.trans h3⟩⟩
        · have HAt := Lib.hid (fun (W : World) (he : Errs W) => atoi_err ws hwl (fun u h => hat ⟨u, h⟩) W he)
          have HPO : Hid (verP s.data.toList a = .error (a, 1)) := Lib.hid (verP_arg HWD.out hl0 hl48 (fun v2 h2 => absurd ⟨v2, h2⟩ hat))
          generalize verP s.data.toList a = R at *
          clear hat hl0 hl48
          go_enter Tryz.func197, Tryz.ntmps197
          go_wp2_with fail
          refine HRun.out.mono ?_
          rintro e w1 ⟨rfl, hpa, hps⟩
          have e0 := hpa.c0
          have e1 := hpa.c1
          have HPA := Lib.hid hpa
          have HPS := Lib.hid hps
          clear hpa hps
          go_wp2_with fail
          go_quiet (fail)
          clear e0 e1
          go_wp2_with fail
          refine (HAt.out _ (HEr.out _ (HPS.out.drewN _))).mono ?_
          rintro e w2 ⟨x, N, rfl, hb2⟩
          have HS2 := Lib.hid ((HPS.out.drewN _).trans (Pside.of_below hb2))
          clear hb2
          go_wp2_with fail
          refine (HF.out a 1 _).mono ?_
          rintro e w3 ⟨rfl, h3⟩
          exact ⟨rfl, ver_bad HPO.out ⟨rfl, HS2.out.trans h3⟩⟩
end Go.Proofs.YtobpkelblpdajaaGreatDoor
