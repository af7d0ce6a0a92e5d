/- Walks: the printer writes a reference and bytes. -/
import Derived.Test.YtobpkelblpdajaaGreatDoorTX21
set_option linter.unusedVariables false
set_option linter.unusedSimpArgs false
set_option linter.unusedSectionVars false
namespace Go.Proofs.YtobpkelblpdajaaGreatDoor
open Go Go.RowKit
attribute [local go_sem] ta_no_bool ta_yes_bool ta_nil_bool ta_no_int64 ta_yes_int64 ta_nil_int64 ta_no_flt ta_yes_flt ta_nil_flt ta_no_str ta_yes_str ta_nil_str ta_no_byt ta_yes_byt ta_nil_byt ta_no_ref ta_yes_ref ta_nil_ref ta_no_lst ta_yes_lst ta_nil_lst ta_no_dct ta_yes_dct ta_nil_dct ta_no_rec ta_yes_rec ta_nil_rec
set_option maxRecDepth 100000 in
set_option maxHeartbeats 4000000 in
theorem val_ref (ln : Bool) (n : Int) : ValC ln (.ref n) := by
  rintro v d bs B bp w ⟨rfl, hn0, hn1⟩ hf hd he hp hlen
  have hlt := hp.lt
  have hle := hp.le
  have HWS := Lib.hid (fun (l : List UInt8) (t : ByteArray) (W : World) (hp : Pr W B bp ln l) (hl : l.length + t.size ≤ 140737488355328) => wstring_any B bp ln l t W hp hl)
  have hb2 := below_boxW w bp d
  have HBX : ∀ W, PrKept B bp (boxW w bp d) W → W.cell? ⟨w.heap.size, 0, none⟩ = some (.pointer (some ⟨bp, 0, none⟩)) := fun W h => box_p hlt h
  have hz2 := boxW_size w bp d
  have hpr := hp.below hb2
  have hk2 : PrKept B bp w (boxW w bp d) := PrKept.of_below hb2 (Nat.le_trans hle (Nat.le_of_lt hlt))
  have he2 := he.below (hb2.mono (Nat.le_trans hle (Nat.le_of_lt hlt)))
  obtain ⟨m, rfl⟩ : ∃ m : Nat, n = m := ⟨n.toNat, by omega⟩
  have HP := Lib.hid (Funt10 m (by omega) (boxW w bp d).drew he2.pow)
  have HT : Hid (putV ln (.ref (m : Int)) d = 64 :: Lib.decDigits m) := Lib.hid (by rw [putV, Int.toNat_natCast])
  have hsz : (Lib.decDigits m).length ≤ 20 := by rw [Lib.decDigits_length]; exact Lib.nDigits_le20 m (by omega)
  simp only [cntV] at hlen
  generalize Lib.decDigits m = L at *
  have HSL : (⟨L.toArray⟩ : ByteArray).size = L.length := by simp [ByteArray.size]
  have HNl : ¬ (9223372036854775807 < 1 + L.length) := by omega
  have HSA : ((⟨#[64]⟩ : ByteArray) ++ ⟨L.toArray⟩).size = L.length + 1 := by rw [ByteArray.size_append, HSL]; exact Nat.add_comm _ _
  clear hf he he2
  go_enter Tryz.func99, Tryz.ntmps99
  go_wp2_with fail
  refine wp_region_heldS (fun W => PrKept B bp (boxW w bp d) W) 4 (by kernel_rfl) (by kernel_rfl) (fun _ _ _ _ _ h => h) ?_ ?_
  · ((exact (PrKept.refl B bp _).drew))
  simp only [List.take_succ_cons, List.take_zero]
  repeat (refine HdS.step (fun K hK => ?_); go_simp; first | (refine hK _ ?_; clear hK K) | (apply Exists.intro; refine ⟨fun W hW => ?_, hK _ ?_⟩; (first | (intros; rfl) | ((have e3 := HBX _ hW; go_simp; rfl))); clear hK K))
  refine HdS.nil ?_
  simp only [List.drop_succ_cons, List.drop_zero]
  refine SeqS.step (fun K hK => ?_)
  go_simp
  go_at_call 130
  refine HP.out.mono ?_
  rintro e w3 ⟨rfl, hb3⟩
  have hk3 : PrKept B bp (boxW w bp d) w3 := PrKept.of_below ((Below.refl _ _).drew.trans hb3) (by rw [hz2]; omega)
  refine hK _ _ hk3 ?_
  clear hK K
  refine SeqS.step (fun K hK => ?_)
  go_simp
  refine hK _ _ hk3 ?_
  clear hK K
  refine SeqS.step (fun K hK => ?_)
  go_simp
  go_at_call 148
  refine (HWS.out bs _ w3 (hpr.below ((Below.refl _ _).drew.trans hb3)) ?hl).mono ?_
  case hl => rw [HSA]; omega
  rintro e w4 ⟨rfl, hp4, hk4⟩
  refine hK _ _ (hk3.trans hk4) ?_
  clear hK K
  refine SeqS.nil ?_
  go_wp2
  go_end0
  exact ⟨rfl, by rw [HT.out]; simpa [ByteArray.data_append] using hp4, hk2.trans (hk3.trans hk4)⟩
def hexP (l : List UInt8) : List UInt8 := l.flatMap fun c => [hexc (c.toNat / 16), hexc (c.toNat % 16)]
theorem hexP_len (l : List UInt8) : (hexP l).length = 2 * l.length := by
  unfold hexP
  induction l with
  | nil => rfl
  | cons c r ih => simp at ih ⊢; omega
theorem hexP_take {l : List UInt8} {k : Nat} {c : UInt8} (h : l[k]? = some c) : hexP (l.take (k + 1)) = hexP (l.take k) ++ [hexc (c.toNat / 16), hexc (c.toNat % 16)] := by
  unfold hexP
  rw [List.take_add_one, h, List.flatMap_append]
  simp
set_option maxRecDepth 100000 in
set_option maxHeartbeats 4000000 in
theorem val_bytes (ln : Bool) (l : List UInt8) : ValC ln (.bytes l) := by
  rintro v d bs B bp w ⟨A, cp, rfl, -, -, hrow⟩ hf hd he hp hlen
  have hlt := hp.lt
  have hle := hp.le
  have HWS := Lib.hid (fun (l : List UInt8) (t : ByteArray) (W : World) (hp : Pr W B bp ln l) (hl : l.length + t.size ≤ 140737488355328) => wstring_any B bp ln l t W hp hl)
  have hb2 := below_boxW w bp d
  have HBX : ∀ W, PrKept B bp (boxW w bp d) W → W.cell? ⟨w.heap.size, 0, none⟩ = some (.pointer (some ⟨bp, 0, none⟩)) := fun W h => box_p hlt h
  have hz2 := boxW_size w bp d
  have hpr := hp.below hb2
  have hk2 : PrKept B bp w (boxW w bp d) := PrKept.of_below hb2 (Nat.le_trans hle (Nat.le_of_lt hlt))
  have he2 := he.below (hb2.mono (Nat.le_trans hle (Nat.le_of_lt hlt)))
  have HWB := Lib.hid (fun (l : List UInt8) (x : UInt8) (i : Int) (hi : i = (x.toNat : Int)) (W : World) (hp : Pr W B bp ln l) (hl : l.length + 1 ≤ 140737488355328) => wbyte_any B bp ln l x i W hi hp hl)
  have HT : Hid (putV ln (.bytes l) d = 35 :: hexP l) := Lib.hid rfl
  have hl : l.length ≤ 65536 := hf
  simp only [cntV] at hlen
  have e3 := HBX _ (PrKept.refl B bp _)
  have HW := Lib.hid (HWB.out bs 35 35 rfl (boxW w bp d) hpr (by omega))
  have HRW := Lib.hid hrow
  clear hf he he2 hrow
  go_enter Tryz.func99, Tryz.ntmps99
  go_wp2_with fail
  refine HW.out.mono ?_
  rintro e w4 ⟨rfl, hp4, hk4⟩
  clear e3
  go_wp2_with fail
  go_loopg [69] l.length (fun r a wr => ∃ k : Nat, a = .int .i64 k ∧ k + r = l.length ∧ Pr wr B bp ln (bs ++ 35 :: hexP (l.take k)) ∧ PrKept B bp (boxW w bp d) wr)
  case atStart => exact ⟨0, rfl, by omega, hp4, hk4⟩
  case round =>
    obtain ⟨k, rfl, hkr, hprr, hkw⟩ := hrel
    by_cases hlt2 : k < l.length
    · obtain ⟨r, rfl⟩ : ∃ r, gk = r + 1 := ⟨gk - 1, by omega⟩
      obtain ⟨c, hc⟩ : ∃ c, l[k]? = some c := ⟨_, List.getElem?_eq_getElem hlt2⟩
      obtain ⟨b, off, rfl, hbB, hcell⟩ : ∃ b off, A = some ⟨b, off, none⟩ ∧ b < B ∧ w.cell? ⟨b, off + k, none⟩ = some (.int .u8 (c.toNat : Int)) := by
        rcases HRW.out with h | ⟨b, off, hA, hbB, h⟩
        · rw [h] at hlt2; simp at hlt2
        · exact ⟨b, off, hA, hbB, h k c hc⟩
      have q1 := ((hk2.trans hkw).1.cell (p := ⟨b, off + k, none⟩) hbB).trans hcell
      have HX := Lib.hid (hexP_take hc)
      have hxl := hexP_len (l.take k)
      have htk : (l.take k).length = k := by rw [List.length_take]; omega
      obtain ⟨L, hL⟩ : ∃ L, L = bs ++ 35 :: hexP (l.take k) := ⟨_, rfl⟩
      have hLl : L.length = bs.length + 1 + 2 * k := by rw [hL]; simp [hxl]; omega
      rw [← hL] at hprr
      have HL := Lib.hid hL
      obtain ⟨n, hn⟩ : ∃ n : Int, n = (c.toNat : Int) := ⟨_, rfl⟩
      rw [← hn] at q1
      have HN := Lib.hid hn
      have hn0 : 0 ≤ n ∧ n < 256 := by have := c.toNat_lt; omega
      have kh := fun (W : World) => hex_hi W HN.out
      have kl := fun (W : World) => hex_lo W HN.out
      clear hL hn hxl htk hcell hc
      go_wp2_with fail
      refine wp_region_heldS (fun W => PrKept B bp (boxW w bp d) W) 6 (by kernel_rfl) (by kernel_rfl) (fun _ _ _ _ _ h => h) ?_ ?_
      · ((exact hkw.drew))
      simp only [List.take_succ_cons, List.take_zero]
      repeat (refine HdS.step (fun K hK => ?_); go_simp; first | (refine hK _ ?_; clear hK K) | (apply Exists.intro; refine ⟨fun W hW => ?_, hK _ ?_⟩; (first | (intros; rfl) | ((have e3 := HBX _ hW; go_simp; rfl))); clear hK K))
      refine HdS.nil ?_
      simp only [List.drop_succ_cons, List.drop_zero]
      refine SeqS.step (fun K hK => ?_)
      go_simp
      go_at_call 151
      refine (HWB.out (L) (hexc (c.toNat / 16)) _ rfl _ (hprr.below (Below.refl _ _).drew) (by first | omega | (simp only [List.length_append, List.length_cons, List.length_nil]; omega))).mono ?_
      rintro e w5 ⟨rfl, hp5, hkk5⟩
      have hk5 : PrKept B bp (boxW w bp d) w5 := (PrKept.drew hkw).trans hkk5
      refine hK _ _ hk5 ?_
      clear hK K
      refine SeqS.nil ?_
      go_wp2_with fail
      refine wp_region_heldS (fun W => PrKept B bp (boxW w bp d) W) 6 (by kernel_rfl) (by kernel_rfl) (fun _ _ _ _ _ h => h) ?_ ?_
      · ((exact hk5.drew))
      simp only [List.take_succ_cons, List.take_zero]
      repeat (refine HdS.step (fun K hK => ?_); go_simp; first | (refine hK _ ?_; clear hK K) | (apply Exists.intro; refine ⟨fun W hW => ?_, hK _ ?_⟩; (first | (intros; rfl) | ((have e3 := HBX _ hW; go_simp; rfl))); clear hK K))
      refine HdS.nil ?_
      simp only [List.drop_succ_cons, List.drop_zero]
      refine SeqS.step (fun K hK => ?_)
      go_simp
      go_at_call 151
      refine (HWB.out (L ++ [hexc (c.toNat / 16)]) (hexc (c.toNat % 16)) _ rfl _ (hp5.below (Below.refl _ _).drew) (by first | omega | (simp only [List.length_append, List.length_cons, List.length_nil]; omega))).mono ?_
      rintro e w6 ⟨rfl, hp6, hkk6⟩
      have hk6 : PrKept B bp (boxW w bp d) w6 := (PrKept.drew hk5).trans hkk6
      refine hK _ _ hk6 ?_
      clear hK K
      refine SeqS.nil ?_
      go_wp2_with fail
      go_roundg r
      case rel => exact ⟨k + 1, by go_num, by omega, by rw [HX.out]; simpa [HL.out] using hp6, hk6⟩
      case measure => omega
    · have hr0 : k = l.length := by omega
      subst hr0
      rw [List.take_length] at hprr
      go_wp2
      go_end0
      exact ⟨rfl, by rw [HT.out]; exact hprr, hk2.trans hkw⟩
end Go.Proofs.YtobpkelblpdajaaGreatDoor
/- Walks: the printer's inner functions: one thing of a list, one entry of a dict. -/
namespace Go.Proofs.YtobpkelblpdajaaGreatDoor
open Go Go.RowKit
theorem one_box {B bp b0 : Nat} {W W' : World} {v : Value} {T : TypeId} (c : W.heap[b0]? = some (.cells #[v] T (0, 0))) (hne : b0 ≠ bp) (hT : T ≠ 5) (h : PrKept B bp W W') : W'.cell? ⟨b0, 0, none⟩ = some v := by
  rw [Lib.cell_of_heap (h.block c hne (by intro c fz e; injection e with _ e _; exact absurd e hT))]; rfl
set_option maxRecDepth 100000 in
set_option maxHeartbeats 4000000 in
theorem each_list (ln : Bool) (x : V) (ih : ValC ln x) (v : Value) (b off len cap i d b0 b1 b2 B bp : Nat) (l : List UInt8) (W : World)
    (c0 : W.heap[b0]? = some (.cells #[.pointer (some ⟨bp, 0, none⟩)] 189 (0, 0))) (c1 : W.heap[b1]? = some (.cells #[.slice (some ⟨b, off, none⟩) len cap] 43 (0, 0))) (c2 : W.heap[b2]? = some (.cells #[.int .i64 d] 3 (0, 0)))
    (n0 : b0 ≠ bp) (n1 : b1 ≠ bp) (n2 : b2 ≠ bp) (hcell : W.cell? ⟨b, off + i, none⟩ = some v) (hbB : b < B) (hi : i < len) (hlen : len ≤ 4096) (hr : Rd W B x v) (hf : Fit x (d + 1)) (hd : d < 64) (he : Env W B) (hp : Pr W B bp ln l) (hl : l.length + 1048576 * cntV x ≤ 1099511627776) :
    Calls Tryz.prog 153 #[.int .i64 i, .pointer (some ⟨b0, 0, none⟩), .pointer (some ⟨b1, 0, none⟩), .pointer (some ⟨b2, 0, none⟩)] W (fun e w' => e = .returned (.tuple #[]) ∧ WrotePost B bp ln (l ++ putV ln x (d + 1)) W w') := by
  have H0 := fun W' h => one_box (B := B) (W' := W') c0 n0 (by decide) h
  have H1 := fun W' h => one_box (B := B) (W' := W') c1 n1 (by decide) h
  have H2 := fun W' h => one_box (B := B) (W' := W') c2 n2 (by decide) h
  have HV : ∀ W', PrKept B bp W W' → W'.cell? ⟨b, off + i, none⟩ = some v := fun W' h => (h.1.cell (p := ⟨b, off + i, none⟩) hbB).trans hcell
  have kw : IntKind.i64.wrap ((d : Int) + 1) = (d : Int) + 1 := by rw [IntKind.wrap_i64]; omega
  have HC := Lib.hid (fun (W' : World) (h : Below W.heap.size W W') (h2 : Below B W W') => ih v (d + 1) l B bp W' (hr.below h2) hf (by omega) (he.below h2) (hp.below h) hl)
  have ho := hr.one
  have hle := hp.le
  have hlt := hp.lt
  clear ih c0 c1 c2 hcell hr hf he hp
  go_enter Tryz.func153, Tryz.ntmps153
  go_wp2_with fail
  refine wp_region_heldS (fun W' => PrKept B bp W W') 7 (by kernel_rfl) (by kernel_rfl) (fun _ _ _ _ _ h => h) ?_ ?_
  · ((exact (PrKept.refl B bp _).drew))
  simp only [List.take_succ_cons, List.take_zero]
  repeat (refine HdS.step (fun K hK => ?_); go_simp; first | (refine hK _ ?_; clear hK K) | (apply Exists.intro; refine ⟨fun W hW => ?_, hK _ ?_⟩; (first | (intros; rfl) | ((have e0 := H0 _ hW; have e1 := H1 _ hW; have e2 := H2 _ hW; have e3 := HV _ hW; go_simp; rfl))); clear hK K))
  refine HdS.nil ?_
  simp only [List.drop_succ_cons, List.drop_zero]
  refine SeqS.step (fun K hK => ?_)
  go_simp
  go_at_call 99
  refine (HC.out _ (Below.refl _ _).drew (Below.refl _ _).drew).mono ?_
  rintro e w4 ⟨rfl, hp4, hk4⟩
  have hk5 : PrKept B bp W w4 := (PrKept.drew (PrKept.refl B bp W)).trans hk4
  refine hK _ _ hk5 ?_
  clear hK K
  refine SeqS.nil ?_
  go_wp2
  go_end0
  exact ⟨rfl, hp4, hk5⟩
set_option maxRecDepth 100000 in
set_option maxHeartbeats 4000000 in
theorem each_field (ln : Bool) (x : V) (nm : ByteArray) (ih : ValC ln x) (v : Value) (b off len cap i d b0 b1 b2 B bp : Nat) (l : List UInt8) (W : World)
    (c0 : W.heap[b0]? = some (.cells #[.pointer (some ⟨bp, 0, none⟩)] 189 (0, 0))) (c1 : W.heap[b1]? = some (.cells #[.slice (some ⟨b, off, none⟩) len cap] 41 (0, 0))) (c2 : W.heap[b2]? = some (.cells #[.int .i64 d] 3 (0, 0)))
    (n0 : b0 ≠ bp) (n1 : b1 ≠ bp) (n2 : b2 ≠ bp) (hname : W.cell? ⟨b, off + i * 2, none⟩ = some (.string nm)) (hcell : W.cell? ⟨b, off + i * 2 + 1, none⟩ = some v) (hbB : b < B) (hi : i < len) (hlen : len ≤ 4096) (hnm : nm.size ≤ 32) (hr : Rd W B x v) (hf : Fit x (d + 1)) (hd : d < 64) (he : Env W B) (hp : Pr W B bp ln l) (hl : l.length + 34 + 1048576 * cntV x ≤ 1099511627776) :
    Calls Tryz.prog 211 #[.int .i64 i, .pointer (some ⟨b0, 0, none⟩), .pointer (some ⟨b1, 0, none⟩), .pointer (some ⟨b2, 0, none⟩)] W (fun e w' => e = .returned (.tuple #[]) ∧ WrotePost B bp ln (l ++ (nm.data.toList ++ [58, 32] ++ putV ln x (d + 1))) W w') := by
  have H0 := fun W' h => one_box (B := B) (W' := W') c0 n0 (by decide) h
  have H1 := fun W' h => one_box (B := B) (W' := W') c1 n1 (by decide) h
  have H2 := fun W' h => one_box (B := B) (W' := W') c2 n2 (by decide) h
  have HV : ∀ W', PrKept B bp W W' → W'.cell? ⟨b, off + i * 2 + 1, none⟩ = some v := fun W' h => (h.1.cell (p := ⟨b, off + i * 2 + 1, none⟩) hbB).trans hcell
  have HM : ∀ W', PrKept B bp W W' → W'.cell? ⟨b, off + i * 2, none⟩ = some (.string nm) := fun W' h => (h.1.cell (p := ⟨b, off + i * 2, none⟩) hbB).trans hname
  have kw : IntKind.i64.wrap ((d : Int) + 1) = (d : Int) + 1 := by rw [IntKind.wrap_i64]; omega
  have HWS := Lib.hid (fun (l : List UInt8) (t : ByteArray) (W : World) (hp : Pr W B bp ln l) (hl : l.length + t.size ≤ 140737488355328) => wstring_any B bp ln l t W hp hl)
  have HC := Lib.hid (fun (l2 : List UInt8) (W' : World) (hp2 : Pr W' B bp ln l2) (h2 : Below B W W') (hl2 : l2.length + 1048576 * cntV x ≤ 1099511627776) => ih v (d + 1) l2 B bp W' (hr.below h2) hf (by omega) (he.below h2) hp2 hl2)
  have ho := hr.one
  have hle := hp.le
  have hlt := hp.lt
  have HNl : ¬ (9223372036854775807 < nm.size + 2) := by omega
  have HSA : (nm ++ (⟨#[58, 32]⟩ : ByteArray)).size = nm.size + 2 := by rw [ByteArray.size_append]; rfl
  have HSD : (nm ++ (⟨#[58, 32]⟩ : ByteArray)).data.toList = nm.data.toList ++ [58, 32] := by simp [ByteArray.data_append]
  clear ih c0 c1 c2 hcell hname hr hf he
  go_enter Tryz.func211, Tryz.ntmps211
  go_wp2_with fail
  refine wp_region_heldS (fun W' => PrKept B bp W W') 8 (by kernel_rfl) (by kernel_rfl) (fun _ _ _ _ _ h => h) ?_ ?_
  · ((exact (PrKept.refl B bp _).drew))
  simp only [List.take_succ_cons, List.take_zero]
  repeat (refine HdS.step (fun K hK => ?_); go_simp; first | (refine hK _ ?_; clear hK K) | (apply Exists.intro; refine ⟨fun W hW => ?_, hK _ ?_⟩; (first | (intros; rfl) | ((have e0 := H0 _ hW; have e1 := H1 _ hW; have e2 := H2 _ hW; have e3 := HM _ hW; go_simp; rfl))); clear hK K))
  refine HdS.nil ?_
  simp only [List.drop_succ_cons, List.drop_zero]
  refine SeqS.step (fun K hK => ?_)
  go_simp
  refine hK _ _ ((PrKept.refl B bp W).drew) ?_
  clear hK K
  refine SeqS.step (fun K hK => ?_)
  go_simp
  go_at_call 148
  refine (HWS.out l _ _ (hp.below (Below.refl _ _).drew) ?hl).mono ?_
  case hl => rw [HSA]; omega
  rintro e w3 ⟨rfl, hp3, hk3a⟩
  have hk3 : PrKept B bp W w3 := (PrKept.drew (PrKept.refl B bp W)).trans hk3a
  refine hK _ _ hk3 ?_
  clear hK K
  refine SeqS.nil ?_
  rw [HSD] at hp3
  go_wp2_with fail
  refine wp_region_heldS (fun W' => PrKept B bp W W') 8 (by kernel_rfl) (by kernel_rfl) (fun _ _ _ _ _ h => h) ?_ ?_
  · ((exact hk3.drew))
  simp only [List.take_succ_cons, List.take_zero]
  repeat (refine HdS.step (fun K hK => ?_); go_simp; first | (refine hK _ ?_; clear hK K) | (apply Exists.intro; refine ⟨fun W hW => ?_, hK _ ?_⟩; (first | (intros; rfl) | ((have e0 := H0 _ hW; have e1 := H1 _ hW; have e2 := H2 _ hW; have e3 := HV _ hW; go_simp; rfl))); clear hK K))
  refine HdS.nil ?_
  simp only [List.drop_succ_cons, List.drop_zero]
  refine SeqS.step (fun K hK => ?_)
  go_simp
  go_at_call 99
  refine (HC.out (l ++ (nm.data.toList ++ [58, 32])) _ (hp3.below (Below.refl _ _).drew) (hk3.1.drew) (by simp only [List.length_append, List.length_cons, List.length_nil, size_list]; omega)).mono ?_
  rintro e w4 ⟨rfl, hp4, hk4⟩
  have hk5 : PrKept B bp W w4 := (PrKept.drew hk3).trans hk4
  refine hK _ _ hk5 ?_
  clear hK K
  refine SeqS.nil ?_
  go_wp2
  go_end0
  exact ⟨rfl, by simpa only [List.append_assoc] using hp4, hk5⟩
end Go.Proofs.YtobpkelblpdajaaGreatDoor
/- Walks: the printer writes a list, a dict, a record. -/
namespace Go.Proofs.YtobpkelblpdajaaGreatDoor
open Go Go.RowKit
attribute [local go_sem] ta_no_bool ta_yes_bool ta_nil_bool ta_no_int64 ta_yes_int64 ta_nil_int64 ta_no_flt ta_yes_flt ta_nil_flt ta_no_str ta_yes_str ta_nil_str ta_no_byt ta_yes_byt ta_nil_byt ta_no_ref ta_yes_ref ta_nil_ref ta_no_lst ta_yes_lst ta_nil_lst ta_no_dct ta_yes_dct ta_nil_dct ta_no_rec ta_yes_rec ta_nil_rec
theorem many_go (F : FuncId) (cap : Array Value) (hF : ∀ args (W : World), (callFunc F args).run Tryz.prog W = .ok (.enter F args) W) (op sh : UInt8) (oi si : Int) (hoi : oi = (op.toNat : Int)) (hsi : si = (sh.toNat : Int)) (n d B bp : Nat) (ln : Bool) (bs : List UInt8) (bf : Nat → List UInt8) (c : Nat → Nat) (w : World)
    (hE : ∀ (i : Nat) (W : World) (l : List UInt8), i < n → PrKept B bp w W → Pr W B bp ln l → l.length + c i ≤ 1099511627776 → Calls Tryz.prog F (#[.int .i64 i] ++ cap) W (fun e w' => e = .returned (.tuple #[]) ∧ WrotePost B bp ln (l ++ bf i) W w'))
    (h : Pr w B bp ln bs) (hd : d < 64) (hn : n ≤ 4096) (hc : ∀ i, i < n → bs.length + 1 + (eachT ln bf d i).length + 132 + c i ≤ 1099511627776) (hc2 : bs.length + 1 + (eachT ln bf d n).length + 132 + 1 ≤ 1099511627776) :
    Calls Tryz.prog 152 #[.pointer (some ⟨bp, 0, none⟩), .int .u8 oi, .int .u8 si, .int .i64 n, .int .i64 d, .func (.func F) #[] cap] w (fun e w' => e = .returned (.tuple #[]) ∧ WrotePost B bp ln (bs ++ op :: (eachT ln bf d n ++ (closeT ln n d ++ [sh]))) w w') :=
  many_any F cap hF op sh oi si hoi hsi n d B bp ln bs bf (fun i => c i + 139637976727552) w (fun i W l hi hk hp hl => hE i W l hi hk hp (by omega)) h hd hn (fun i hi => by have := hc i hi; omega) (by omega)
def elV (l : List V) (i : Nat) : V := (l[i]?).getD .nil
def elD (l : List (ByteArray × V)) (i : Nat) : ByteArray × V := (l[i]?).getD (ByteArray.empty, .nil)
def bfL (ln : Bool) (l : List V) (d i : Nat) : List UInt8 := putV ln (elV l i) (d + 1)
def bfD (ln : Bool) (l : List (ByteArray × V)) (d i : Nat) : List UInt8 := (elD l i).1.data.toList ++ [58, 32] ++ putV ln (elD l i).2 (d + 1)
theorem putL_each (ln : Bool) (l : List V) (d : Nat) : ∀ k, k ≤ l.length → eachT ln (bfL ln l d) d k ++ putL ln (l.drop k) k d = putL ln l 0 d := by
  intro k
  induction k with
  | zero => intro _; rfl
  | succ k ih =>
    intro hk
    obtain ⟨x, hx⟩ : ∃ x, l[k]? = some x := ⟨_, List.getElem?_eq_getElem (by omega)⟩
    have hdr : l.drop k = x :: l.drop (k + 1) := by rw [List.drop_eq_getElem_cons (by omega)]; rw [List.getElem?_eq_getElem (by omega)] at hx; injection hx with hx; rw [hx]
    rw [← ih (by omega), hdr, putL, eachT]
    simp [bfL, elV, hx]
theorem putD_each (ln : Bool) (l : List (ByteArray × V)) (d : Nat) : ∀ k, k ≤ l.length → eachT ln (bfD ln l d) d k ++ putD ln (l.drop k) k d = putD ln l 0 d := by
  intro k
  induction k with
  | zero => intro _; rfl
  | succ k ih =>
    intro hk
    obtain ⟨x, hx⟩ : ∃ x, l[k]? = some x := ⟨_, List.getElem?_eq_getElem (by omega)⟩
    have hdr : l.drop k = x :: l.drop (k + 1) := by rw [List.drop_eq_getElem_cons (by omega)]; rw [List.getElem?_eq_getElem (by omega)] at hx; injection hx with hx; rw [hx]
    rw [← ih (by omega), hdr]
    obtain ⟨nm, x⟩ := x
    rw [putD, eachT]
    simp [bfD, elD, hx]
/- So far, and one more: not beyond the whole. -/
theorem eachL_len (ln : Bool) (l : List V) (d : Nat) (hd : d < 64) (hf : FitL l (d + 1)) : ∀ k, k ≤ l.length → (eachT ln (bfL ln l d) d k).length ≤ 1048576 * cntL (l.take k) + 200 * k := by
  intro k
  induction k with
  | zero => intro _; simp [eachT]
  | succ k ih =>
    intro hk
    have h0 := ih (by omega)
    obtain ⟨x, hx⟩ : ∃ x, l[k]? = some x := ⟨_, List.getElem?_eq_getElem (by omega)⟩
    have h1 := put_len ln x (d + 1) (hf.at_ x (List.mem_of_getElem? hx))
    have h2 := sepT_len ln k d hd
    have h3 : cntL (l.take (k + 1)) = cntL (l.take k) + cntV x := by
      rw [List.take_add_one, hx]
      have : ∀ a : List V, cntL (a ++ [x]) = cntL a + cntV x := by
        intro a; induction a with
        | nil => simp [cntL]
        | cons y r ih => simp [cntL, ih]; omega
      exact this _
    rw [eachT, h3]
    simp only [List.length_append, bfL, elV, hx, Option.getD_some]
    omega
theorem cntL_take (l : List V) (k : Nat) (x : V) (hx : l[k]? = some x) : cntL (l.take k) + cntV x ≤ cntL l := by
  induction l generalizing k with
  | nil => simp at hx
  | cons y r ih =>
    cases k with
    | zero => simp at hx; subst hx; simp [cntL]
    | succ k => have := ih k (by simpa using hx); simp only [List.take_succ_cons, cntL]; omega
theorem eachD_len (ln : Bool) (l : List (ByteArray × V)) (d : Nat) (hd : d < 64) (hf : FitD l (d + 1)) : ∀ k, k ≤ l.length → (eachT ln (bfD ln l d) d k).length ≤ 1048576 * cntD (l.take k) + 200 * k := by
  intro k
  induction k with
  | zero => intro _; simp [eachT]
  | succ k ih =>
    intro hk
    have h0 := ih (by omega)
    obtain ⟨x, hx⟩ : ∃ x, l[k]? = some x := ⟨_, List.getElem?_eq_getElem (by omega)⟩
    have h1 := put_len ln x.2 (d + 1) (hf.at_ x (List.mem_of_getElem? hx)).2
    have h5 := (hf.at_ x (List.mem_of_getElem? hx)).1
    have h2 := sepT_len ln k d hd
    have h3 : cntD (l.take (k + 1)) = cntD (l.take k) + cntV x.2 := by
      rw [List.take_add_one, hx]
      have : ∀ a : List (ByteArray × V), cntD (a ++ [x]) = cntD a + cntV x.2 := by
        intro a; induction a with
        | nil => obtain ⟨n, x⟩ := x; simp [cntD]
        | cons y r ih => obtain ⟨n, y⟩ := y; simp [cntD, ih]; omega
      exact this _
    rw [eachT, h3]
    simp only [List.length_append, bfD, elD, hx, Option.getD_some, size_list, List.length_cons, List.length_nil]
    omega
theorem cntD_take (l : List (ByteArray × V)) (k : Nat) (x : ByteArray × V) (hx : l[k]? = some x) : cntD (l.take k) + cntV x.2 ≤ cntD l := by
  induction l generalizing k with
  | nil => simp at hx
  | cons y r ih =>
    obtain ⟨n, y⟩ := y
    cases k with
    | zero => simp at hx; subst hx; simp [cntD]
    | succ k => have := ih k (by simpa using hx); simp only [List.take_succ_cons, cntD]; omega
end Go.Proofs.YtobpkelblpdajaaGreatDoor
