/- Walks: the printer writes a list. -/
import Derived.Test.YtobpkelblpdajaaGreatDoorTX22
set_option linter.unusedVariables false
set_option linter.unusedSimpArgs false
set_option linter.unusedSectionVars false
namespace Go.Proofs.YtobpkelblpdajaaGreatDoor
open Go Go.RowKit
attribute [local go_sem] ta_no_bool ta_yes_bool ta_nil_bool ta_no_int64 ta_yes_int64 ta_nil_int64 ta_no_flt ta_yes_flt ta_nil_flt ta_no_str ta_yes_str ta_nil_str ta_no_byt ta_yes_byt ta_nil_byt ta_no_ref ta_yes_ref ta_nil_ref ta_no_lst ta_yes_lst ta_nil_lst ta_no_dct ta_yes_dct ta_nil_dct ta_no_rec ta_yes_rec ta_nil_rec
def boxX (w : World) (bp : Nat) (d : Int) (v : Value) : World := (boxW w bp d).alloc (.cells #[v] 43)
theorem boxX_below (w : World) (bp : Nat) (d : Int) (v : Value) : Below (w.heap.size + 1 + 1) (boxW w bp d) (boxX w bp d v) :=
  (Below.refl _ _).alloc (by rw [boxW_size]; exact Nat.le_refl _) _
theorem boxX_x (w : World) (bp : Nat) (d : Int) (v : Value) : (boxX w bp d v).heap[w.heap.size + 1 + 1]? = some (.cells #[v] 43 (0, 0)) := by
  have h := boxW_size w bp d
  unfold boxX
  rw [show w.heap.size + 1 + 1 = (boxW w bp d).heap.size from h.symm]
  exact Array.getElem?_push_size
set_option maxRecDepth 100000 in
set_option maxHeartbeats 4000000 in
theorem val_list (ln : Bool) (l : List V) (ih : ∀ x ∈ l, ValC ln x) : ValC ln (.list l) := by
  rintro v d bs B bp w ⟨A, cp, rfl, -, hcp, hrow⟩ hf hd he hp hlen
  have hlt := hp.lt
  have hle := hp.le
  have HWS := Lib.hid (fun (l : List UInt8) (t : ByteArray) (W : World) (hp : Pr W B bp ln l) (hl : l.length + t.size ≤ 140737488355328) => wstring_any B bp ln l t W hp hl)
  have hb2 := below_boxW w bp d
  clear hd
  obtain ⟨hd, hl4, hfl⟩ := hf
  have HBX : ∀ W, PrKept B bp (boxW w bp d) W → W.cell? ⟨w.heap.size, 0, none⟩ = some (.pointer (some ⟨bp, 0, none⟩)) := fun W h => box_p hlt h
  have hz2 := boxW_size w bp d
  have hpr := hp.below hb2
  have hk2 : PrKept B bp w (boxW w bp d) := PrKept.of_below hb2 (Nat.le_trans hle (Nat.le_of_lt hlt))
  have he2 := he.below (hb2.mono (Nat.le_trans hle (Nat.le_of_lt hlt)))
  have HT : Hid (putV ln (.list l) d = 91 :: (eachT ln (bfL ln l d) d l.length ++ (closeT ln l.length d ++ [93]))) := Lib.hid (by
    rw [putV, ← putL_each ln l d l.length (Nat.le_refl _), List.drop_length]; simp [putL])
  have hbx := boxX_below w bp d (.slice A l.length cp)
  have hbxw : Below w.heap.size w (boxX w bp d (.slice A l.length cp)) := hb2.trans (hbx.mono (by omega))
  have hkx : PrKept B bp w (boxX w bp d (.slice A l.length cp)) := PrKept.of_below hbxw (Nat.le_trans hle (Nat.le_of_lt hlt))
  have c0 := (hbx.block w.heap.size (by omega)).trans (boxW_p w bp d)
  have c2 := (hbx.block (w.heap.size + 1) (by omega)).trans (boxW_d w bp d)
  have c1 := boxX_x w bp d (.slice A l.length cp)
  have hprx := hp.below hbxw
  have HM := Lib.hid (many_go 153 #[.pointer (some ⟨w.heap.size, 0, none⟩), .pointer (some ⟨w.heap.size + 1 + 1, 0, none⟩), .pointer (some ⟨w.heap.size + 1, 0, none⟩)] (enters_of Tryz.func153 (by kernel_rfl) rfl) 91 93 91 93 rfl rfl l.length d B bp ln bs (bfL ln l d) (fun i => 1048576 * cntV (elV l i)) (boxX w bp d (.slice A l.length cp)) (fun i W l2 hi hkW hpW hlW => by
      obtain ⟨x, hx⟩ : ∃ x, l[i]? = some x := ⟨_, List.getElem?_eq_getElem hi⟩
      have hel : elV l i = x := by unfold elV; rw [hx]; rfl
      rcases hrow with h | ⟨b, off, rfl, hbB, hr⟩
      · rw [h] at hi; simp at hi
      obtain ⟨v, hv, hrx⟩ := RdL.iff.1 hr i x hx
      have hbW : Below B w W := (hkx.trans hkW).1
      have h1 := each_list ln x (ih x (List.mem_of_getElem? hx)) v b off l.length cp i d w.heap.size (w.heap.size + 1 + 1) (w.heap.size + 1) B bp l2 W
        (hkW.block c0 (by omega) (by intro c fz e; injection e with _ e _; exact absurd e (by decide))) (hkW.block c1 (by omega) (by intro c fz e; injection e with _ e _; exact absurd e (by decide))) (hkW.block c2 (by omega) (by intro c fz e; injection e with _ e _; exact absurd e (by decide)))
        (by omega) (by omega) (by omega) ((hbW.cell (p := ⟨b, off + i, none⟩) hbB).trans hv) hbB hi hl4 (hrx.below hbW) (hfl.at_ x (List.mem_of_getElem? hx)) hd (he.below hbW) hpW (by simp only [hel] at hlW; exact hlW)
      unfold bfL
      rw [hel]
      exact h1) hprx hd hl4 (fun i hi => by
      obtain ⟨x, hx⟩ : ∃ x, l[i]? = some x := ⟨_, List.getElem?_eq_getElem hi⟩
      have hel : elV l i = x := by unfold elV; rw [hx]; rfl
      have h1 := eachL_len ln l d hd hfl i (Nat.le_of_lt hi)
      have h2 := cntL_take l i x hx
      simp only [cntV, hel] at hlen ⊢
      omega) (by
      have h1 := eachL_len ln l d hd hfl l.length (Nat.le_refl _)
      rw [List.take_length] at h1
      simp only [cntV] at hlen
      omega))
  have hmf : ∀ (fn : Fn) (first cap : Array Value) (w : World), (Instr.makeFunc fn first cap).run Tryz.prog w = .ok (.func fn first cap) w := fun _ _ _ _ => rfl
  have d0 : (boxX w bp d (.slice A l.length cp)).cell? ⟨w.heap.size, 0, none⟩ = some (.pointer (some ⟨bp, 0, none⟩)) := by rw [Lib.cell_of_heap c0]; rfl
  have d2 : (boxX w bp d (.slice A l.length cp)).cell? ⟨w.heap.size + 1, 0, none⟩ = some (.int .i64 d) := by rw [Lib.cell_of_heap c2]; rfl
  have d1 : (boxX w bp d (.slice A l.length cp)).cell? ⟨w.heap.size + 1 + 1, 0, none⟩ = some (.slice A l.length cp) := by rw [Lib.cell_of_heap c1]; rfl
  clear ih hrow hfl he he2 HWS HBX hb2 hpr hbx c0 c1 c2 hprx hp hbxw
  go_enter Tryz.func99, Tryz.ntmps99
  go_wp2_with fail
  refine HM.out.mono ?_
  rintro e w4 ⟨rfl, hp4, hk4⟩
  go_wp2
  go_end0
  exact ⟨rfl, by rw [HT.out]; exact hp4, hkx.trans hk4⟩
end Go.Proofs.YtobpkelblpdajaaGreatDoor
/- Walks: the printer writes the entries of a dict. -/
namespace Go.Proofs.YtobpkelblpdajaaGreatDoor
open Go Go.RowKit
def boxF (w : World) (bp : Nat) (v : Value) (d : Int) : World := ((w.alloc (.cells #[.pointer (some ⟨bp, 0, none⟩)] 189)).alloc (.cells #[v] 41)).alloc (.cells #[.int .i64 d] 3)
theorem boxF_below (w : World) (bp : Nat) (v : Value) (d : Int) : Below w.heap.size w (boxF w bp v d) := (((Below.refl _ _).alloc (Nat.le_refl _) _).alloc (by simp) _).alloc (by simp; omega) _
theorem boxF_p (w : World) (bp : Nat) (v : Value) (d : Int) : (boxF w bp v d).heap[w.heap.size]? = some (.cells #[.pointer (some ⟨bp, 0, none⟩)] 189 (0, 0)) := by
  unfold boxF
  rw [Below.heap_alloc _ _ _ (by simp; omega), Below.heap_alloc _ _ _ (by simp)]
  exact Array.getElem?_push_size
theorem boxF_x (w : World) (bp : Nat) (v : Value) (d : Int) : (boxF w bp v d).heap[w.heap.size + 1]? = some (.cells #[v] 41 (0, 0)) := by
  have h : (w.alloc (.cells #[.pointer (some ⟨bp, 0, none⟩)] 189)).heap.size = w.heap.size + 1 := by simp
  unfold boxF
  rw [Below.heap_alloc _ _ _ (by simp), ← h]
  exact Array.getElem?_push_size
theorem boxF_d (w : World) (bp : Nat) (v : Value) (d : Int) : (boxF w bp v d).heap[w.heap.size + 1 + 1]? = some (.cells #[.int .i64 d] 3 (0, 0)) := by
  have h : ((w.alloc (.cells #[.pointer (some ⟨bp, 0, none⟩)] 189)).alloc (.cells #[v] 41)).heap.size = w.heap.size + 1 + 1 := by simp
  unfold boxF
  rw [← h]
  exact Array.getElem?_push_size
set_option maxRecDepth 100000 in
set_option maxHeartbeats 4000000 in
theorem pfields_any (ln : Bool) (l : List (ByteArray × V)) (ih : ∀ p ∈ l, ValC ln p.2) (A : Option Addr) (cp d B bp : Nat) (bs : List UInt8) (w : World) (hrow : l = [] ∨ ∃ b off, A = some ⟨b, off, none⟩ ∧ b < B ∧ RdD w (fun b => b < B) b off l)
    (hfl : FitD l (d + 1)) (hl4 : l.length ≤ 4096) (hd : d < 64) (he : Env w B) (hp : Pr w B bp ln bs) (hlen : bs.length + 900000 + 1048576 * cntD l ≤ 1099511627776) :
    Calls Tryz.prog 154 #[.pointer (some ⟨bp, 0, none⟩), .slice A l.length cp, .int .i64 d] w (ValPost B bp ln (bs ++ 123 :: (putD ln l 0 d ++ (closeT ln l.length d ++ [125]))) w) := by
  have hlt := hp.lt
  have hle := hp.le
  have HT : Hid (putD ln l 0 d = eachT ln (bfD ln l d) d l.length) := Lib.hid (by
    rw [← putD_each ln l d l.length (Nat.le_refl _), List.drop_length]; simp [putD])
  have hbxw := boxF_below w bp (.slice A l.length cp) d
  have hkx : PrKept B bp w (boxF w bp (.slice A l.length cp) d) := PrKept.of_below hbxw (Nat.le_trans hle (Nat.le_of_lt hlt))
  have c0 := boxF_p w bp (.slice A l.length cp) d
  have c2 := boxF_d w bp (.slice A l.length cp) d
  have c1 := boxF_x w bp (.slice A l.length cp) d
  have hprx := hp.below hbxw
  have HM := Lib.hid (many_go 211 #[.pointer (some ⟨w.heap.size, 0, none⟩), .pointer (some ⟨w.heap.size + 1, 0, none⟩), .pointer (some ⟨w.heap.size + 1 + 1, 0, none⟩)] (enters_of Tryz.func211 (by kernel_rfl) rfl) 123 125 123 125 rfl rfl l.length d B bp ln bs (bfD ln l d) (fun i => 34 + 1048576 * cntV (elD l i).2) (boxF w bp (.slice A l.length cp) d) (fun i W l2 hi hkW hpW hlW => by
      obtain ⟨x, hx⟩ : ∃ x, l[i]? = some x := ⟨_, List.getElem?_eq_getElem hi⟩
      have hel : elD l i = x := by unfold elD; rw [hx]; rfl
      rcases hrow with h | ⟨b, off, rfl, hbB, hr⟩
      · rw [h] at hi; simp at hi
      obtain ⟨hnm, -, v, hv, hrx⟩ := RdD.iff.1 hr i x hx
      have hbW : Below B w W := (hkx.trans hkW).1
      have hfx := hfl.at_ x (List.mem_of_getElem? hx)
      have h1 := each_field ln x.2 x.1 (ih x (List.mem_of_getElem? hx)) v b off l.length cp i d w.heap.size (w.heap.size + 1) (w.heap.size + 1 + 1) B bp l2 W
        (hkW.block c0 (by omega) (by intro c fz e; injection e with _ e _; exact absurd e (by decide))) (hkW.block c1 (by omega) (by intro c fz e; injection e with _ e _; exact absurd e (by decide))) (hkW.block c2 (by omega) (by intro c fz e; injection e with _ e _; exact absurd e (by decide)))
        (by omega) (by omega) (by omega) ((hbW.cell (p := ⟨b, off + i * 2, none⟩) hbB).trans hnm) ((hbW.cell (p := ⟨b, off + i * 2 + 1, none⟩) hbB).trans hv) hbB hi hl4 hfx.1 (hrx.below hbW) hfx.2 hd (he.below hbW) hpW (by simp only [hel] at hlW; omega)
      unfold bfD
      rw [hel]
      exact h1) hprx hd hl4 (fun i hi => by
      obtain ⟨x, hx⟩ : ∃ x, l[i]? = some x := ⟨_, List.getElem?_eq_getElem hi⟩
      have hel : elD l i = x := by unfold elD; rw [hx]; rfl
      have h1 := eachD_len ln l d hd hfl i (Nat.le_of_lt hi)
      have h2 := cntD_take l i x hx
      simp only [hel]
      omega) (by
      have h1 := eachD_len ln l d hd hfl l.length (Nat.le_refl _)
      rw [List.take_length] at h1
      omega))
  have hmf : ∀ (fn : Fn) (first cap : Array Value) (w : World), (Instr.makeFunc fn first cap).run Tryz.prog w = .ok (.func fn first cap) w := fun _ _ _ _ => rfl
  have d0 : (boxF w bp (.slice A l.length cp) d).cell? ⟨w.heap.size, 0, none⟩ = some (.pointer (some ⟨bp, 0, none⟩)) := by rw [Lib.cell_of_heap c0]; rfl
  have d2 : (boxF w bp (.slice A l.length cp) d).cell? ⟨w.heap.size + 1 + 1, 0, none⟩ = some (.int .i64 d) := by rw [Lib.cell_of_heap c2]; rfl
  have d1 : (boxF w bp (.slice A l.length cp) d).cell? ⟨w.heap.size + 1, 0, none⟩ = some (.slice A l.length cp) := by rw [Lib.cell_of_heap c1]; rfl
  clear ih hrow hfl he c0 c1 c2 hprx hp hbxw
  go_enter Tryz.func154, Tryz.ntmps154
  go_wp2_with fail
  refine HM.out.mono ?_
  rintro e w4 ⟨rfl, hp4, hk4⟩
  go_wp2
  go_end0
  exact ⟨rfl, by rw [HT.out]; exact hp4, hkx.trans hk4⟩
end Go.Proofs.YtobpkelblpdajaaGreatDoor
/- Walks: the printer writes a dict, a record, any value. -/
namespace Go.Proofs.YtobpkelblpdajaaGreatDoor
open Go Go.RowKit
attribute [local go_sem] ta_no_bool ta_yes_bool ta_nil_bool ta_no_int64 ta_yes_int64 ta_nil_int64 ta_no_flt ta_yes_flt ta_nil_flt ta_no_str ta_yes_str ta_nil_str ta_no_byt ta_yes_byt ta_nil_byt ta_no_ref ta_yes_ref ta_nil_ref ta_no_lst ta_yes_lst ta_nil_lst ta_no_dct ta_yes_dct ta_nil_dct ta_no_rec ta_yes_rec ta_nil_rec
set_option maxRecDepth 100000 in
set_option maxHeartbeats 4000000 in
theorem val_dict (ln : Bool) (l : List (ByteArray × V)) (ih : ∀ p ∈ l, ValC ln p.2) : ValC ln (.dict l) := by
  rintro v d bs B bp w hv hf hd he hp hlen
  have hlt := hp.lt
  have hle := hp.le
  have HWS := Lib.hid (fun (l : List UInt8) (t : ByteArray) (W : World) (hp : Pr W B bp ln l) (hl : l.length + t.size ≤ 140737488355328) => wstring_any B bp ln l t W hp hl)
  have hb2 := below_boxW w bp d
  clear hd
  obtain ⟨hd, hl4, hfl⟩ := hf
  have hv2 := hv.below (hb2.mono (Nat.le_trans hle (Nat.le_of_lt hlt)))
  clear hv
  obtain ⟨A, cp, rfl, -, hrow⟩ := hv2
  have HBX : ∀ W, PrKept B bp (boxW w bp d) W → W.cell? ⟨w.heap.size, 0, none⟩ = some (.pointer (some ⟨bp, 0, none⟩)) := fun W h => box_p hlt h
  have hz2 := boxW_size w bp d
  have hpr := hp.below hb2
  have hk2 : PrKept B bp w (boxW w bp d) := PrKept.of_below hb2 (Nat.le_trans hle (Nat.le_of_lt hlt))
  have he2 := he.below (hb2.mono (Nat.le_trans hle (Nat.le_of_lt hlt)))
  have HT : Hid (putV ln (.dict l) d = 123 :: (putD ln l 0 d ++ (closeT ln l.length d ++ [125]))) := Lib.hid (by rw [putV])
  simp only [cntV] at hlen
  have HM := Lib.hid (pfields_any ln l ih A cp d B bp bs (boxW w bp d) hrow hfl hl4 hd he2 hpr (by omega))
  have e3 := HBX _ (PrKept.refl B bp _)
  have e5 := box_d (B := B) hlt (PrKept.refl B bp (boxW w bp d))
  clear ih hrow hfl he he2 HWS HBX hb2 hpr hp
  go_enter Tryz.func99, Tryz.ntmps99
  go_wp2_with fail
  refine HM.out.mono ?_
  rintro e w4 ⟨rfl, hp4, hk4⟩
  go_wp2
  go_end0
  exact ⟨rfl, by rw [HT.out]; exact hp4, hk2.trans hk4⟩
set_option maxRecDepth 100000 in
set_option maxHeartbeats 4000000 in
theorem val_record (ln : Bool) (c : ByteArray) (vr : Int) (l : List (ByteArray × V)) (ih : ∀ p ∈ l, ValC ln p.2) : ValC ln (.record c vr l) := by
  rintro v d bs B bp w hv hf hd he hp hlen
  have hlt := hp.lt
  have hle := hp.le
  have HWS := Lib.hid (fun (l : List UInt8) (t : ByteArray) (W : World) (hp : Pr W B bp ln l) (hl : l.length + t.size ≤ 140737488355328) => wstring_any B bp ln l t W hp hl)
  have hb2 := below_boxW w bp d
  clear hd
  obtain ⟨hd, hc32, hv1, hv2, hl4, hfl⟩ := hf
  have hvb := hv.below (hb2.mono (Nat.le_trans hle (Nat.le_of_lt hlt)))
  clear hv
  have hvb0 := hvb
  obtain ⟨b, rfl, hbB, -, r0, r1, -, -, A, cp, r2, -, hrow⟩ := hvb
  have HBX : ∀ W, PrKept B bp (boxW w bp d) W → W.cell? ⟨w.heap.size, 0, none⟩ = some (.pointer (some ⟨bp, 0, none⟩)) := fun W h => box_p hlt h
  have hz2 := boxW_size w bp d
  have hpr := hp.below hb2
  have hk2 : PrKept B bp w (boxW w bp d) := PrKept.of_below hb2 (Nat.le_trans hle (Nat.le_of_lt hlt))
  have he2 := he.below (hb2.mono (Nat.le_trans hle (Nat.le_of_lt hlt)))
  have HT : Hid (putV ln (.record c vr l) d = c.data.toList ++ 47 :: (Lib.itoa vr ++ 123 :: (putD ln l 0 d ++ (closeT ln l.length d ++ [125])))) := Lib.hid (by rw [putV])
  simp only [cntV] at hlen
  have HRC : ∀ W, PrKept B bp (boxW w bp d) W → W.cell? ⟨b, 0, none⟩ = some (.string c) ∧ W.cell? ⟨b, 1, none⟩ = some (.int .i64 vr) ∧ W.cell? ⟨b, 2, none⟩ = some (.slice A l.length cp) := fun W h => ⟨(h.1.cell (p := ⟨b, 0, none⟩) hbB).trans r0, (h.1.cell (p := ⟨b, 1, none⟩) hbB).trans r1, (h.1.cell (p := ⟨b, 2, none⟩) hbB).trans r2⟩
  have HBD : ∀ W, PrKept B bp (boxW w bp d) W → W.cell? ⟨w.heap.size + 1, 0, none⟩ = some (.int .i64 d) := fun W h => box_d hlt h
  have HIT := Lib.hid (fun (W : World) (hp : Pow W) => Itoa10 vr (by omega) (by omega) W hp)
  have HEN := Lib.hid (fun (W : World) (h : PrKept B bp (boxW w bp d) W) => he2.below h.1)
  have hil := Lib.itoa_length_le vr (by omega) (by omega)
  have HFL := Lib.hid (fun (l2 : List UInt8) (W : World) (h : PrKept B bp (boxW w bp d) W) (hpW : Pr W B bp ln l2) (hlW : l2.length + 900000 + 1048576 * cntD l ≤ 1099511627776) => pfields_any ln l ih A cp d B bp l2 W (by
    rcases hrow with h0 | ⟨b, off, hA, hbb, hr⟩
    · exact .inl h0
    · refine .inr ⟨b, off, hA, hbb, RdD.iff.2 fun i p hi => ?_⟩
      obtain ⟨q0, q1, v, q2, q3⟩ := RdD.iff.1 hr i p hi
      exact ⟨(h.1.cell (p := ⟨b, _, none⟩) hbb).trans q0, q1, v, (h.1.cell (p := ⟨b, _, none⟩) hbb).trans q2, q3.below h.1⟩) hfl hl4 hd (he2.below h.1) hpW hlW)
  generalize hI : Lib.itoa vr = L at *
  have HSL : (⟨L.toArray⟩ : ByteArray).size = L.length := by simp [ByteArray.size]
  have HN1 : ¬ (9223372036854775807 < c.size + 1) := by omega
  have HN2 : ¬ (9223372036854775807 < c.size + 1 + L.length) := by omega
  have HSA : (c ++ (⟨#[47]⟩ : ByteArray)).size = c.size + 1 := by rw [ByteArray.size_append]; rfl
  have HSB : ((c ++ (⟨#[47]⟩ : ByteArray)) ++ (⟨L.toArray⟩ : ByteArray)).size = c.size + 1 + L.length := by rw [ByteArray.size_append, HSA, HSL]
  have HSD : ((c ++ (⟨#[47]⟩ : ByteArray)) ++ (⟨L.toArray⟩ : ByteArray)).data.toList = c.data.toList ++ 47 :: L := by simp [ByteArray.data_append]
  clear ih hrow hfl he he2 hvb0 r0 r1 r2
  go_enter Tryz.func99, Tryz.ntmps99
  go_wp2_with fail
  refine wp_region_heldS (fun W => PrKept B bp (boxW w bp d) W) 12 (by kernel_rfl) (by kernel_rfl) (fun _ _ _ _ _ h => h) ?_ ?_
  · ((exact (PrKept.refl B bp _).drew))
  simp only [List.take_succ_cons, List.take_zero]
  repeat (refine HdS.step (fun K hK => ?_); go_simp; first | (refine hK _ ?_; clear hK K) | (apply Exists.intro; refine ⟨fun W hW => ?_, hK _ ?_⟩; (first | (intros; rfl) | ((have e3 := HBX _ hW; obtain ⟨q0, q1, q2⟩ := HRC _ hW; go_simp; rfl))); clear hK K))
  refine HdS.nil ?_
  simp only [List.drop_succ_cons, List.drop_zero]
  refine SeqS.step (fun K hK => ?_)
  go_simp
  go_at_call 155
  refine (HIT.out _ (HEN.out _ (PrKept.refl B bp _).drew).pow).mono ?_
  rintro e w3 ⟨rfl, hb3⟩
  have hk3 : PrKept B bp (boxW w bp d) w3 := PrKept.of_below ((Below.refl _ _).drew.trans hb3) (by rw [hz2]; omega)
  refine hK _ _ hk3 ?_
  clear hK K
  refine SeqS.step (fun K hK => ?_)
  go_simp
  refine hK _ _ hk3 ?_
  clear hK K
  refine SeqS.step (fun K hK => ?_)
  go_simp
  go_at_call 148
  refine (HWS.out bs _ w3 (hpr.below ((Below.refl _ _).drew.trans hb3)) ?hl).mono ?_
  case hl => rw [HSB]; omega
  rintro e w4 ⟨rfl, hp4, hk4a⟩
  have hk4 := hk3.trans hk4a
  rw [HSD] at hp4
  refine hK _ _ hk4 ?_
  clear hK K
  refine SeqS.nil ?_
  go_wp2_with fail
  refine wp_region_heldS (fun W => PrKept B bp (boxW w bp d) W) 6 (by kernel_rfl) (by kernel_rfl) (fun _ _ _ _ _ h => h) ?_ ?_
  · ((exact hk4.drew))
  simp only [List.take_succ_cons, List.take_zero]
  repeat (refine HdS.step (fun K hK => ?_); go_simp; first | (refine hK _ ?_; clear hK K) | (apply Exists.intro; refine ⟨fun W hW => ?_, hK _ ?_⟩; (first | (intros; rfl) | ((have e3 := HBX _ hW; have e5 := HBD _ hW; obtain ⟨q0, q1, q2⟩ := HRC _ hW; go_simp; rfl))); clear hK K))
  refine HdS.nil ?_
  simp only [List.drop_succ_cons, List.drop_zero]
  refine SeqS.step (fun K hK => ?_)
  go_simp
  go_at_call 154
  refine (HFL.out _ _ hk4.drew (hp4.below (Below.refl _ _).drew) (by simp only [List.length_append, List.length_cons, size_list]; omega)).mono ?_
  rintro e w5 ⟨rfl, hp5, hk5⟩
  refine hK _ _ (hk4.drew.trans hk5) ?_
  clear hK K
  refine SeqS.nil ?_
  go_wp2
  go_end0
  exact ⟨rfl, by rw [HT.out]; simpa using hp5, hk2.trans (hk4.drew.trans hk5)⟩
theorem val_any (ln : Bool) (x : V) : ValC ln x := by
  induction x using V.ind with
  | h0 => exact val_nil ln
  | h1 b => exact val_bool ln b
  | h2 n => exact val_int ln n
  | h3 b => exact val_flt ln b
  | h4 t => exact val_text ln t
  | h5 l => exact val_bytes ln l
  | h6 n => exact val_ref ln n
  | h7 l ih => exact val_list ln l ih
  | h8 l ih => exact val_dict ln l ih
  | h9 c v l ih => exact val_record ln c v l ih
  | h10 => intro v d bs B bp w _ hf; exact absurd hf id
  | h11 => intro v d bs B bp w _ hf; exact absurd hf id
end Go.Proofs.YtobpkelblpdajaaGreatDoor
/- Walks: text.printed, Print, Lines, Quote. -/
namespace Go.Proofs.YtobpkelblpdajaaGreatDoor
open Go Go.RowKit
noncomputable def printV (ln : Bool) (x : V) : ByteArray × Nat := if (checkV x).2 = 0 then (⟨(putV ln x 0).toArray⟩, 0) else (ByteArray.empty, (checkV x).2)
theorem itoa_ne (n : Int) : Lib.itoa n ≠ [] := by
  intro e
  unfold Lib.itoa at e
  split at e
  · cases e
  · have h := Lib.decDigits_length n.toNat
    rw [e] at h
    rw [Lib.nDigits] at h
    split at h <;> simp at h
theorem put_ne (ln : Bool) (x : V) (d : Nat) (h : Fit x d) : putV ln x d ≠ [] := by
  cases x with
  | nil => simp [putV]
  | bool b => cases b <;> simp [putV, truB, falB]
  | int n => rw [putV]; exact itoa_ne n
  | flt b => rw [putV]; unfold fltT; split; split <;> simp; simp
  | text s => simp [putV, quoteB]
  | bytes l => simp [putV, hexB]
  | ref n => simp [putV]
  | list l => simp [putV]
  | dict l => simp [putV]
  | record c v l => simp [putV]
  | nothing => exact absurd h id
  | alien => exact absurd h id
set_option maxRecDepth 100000 in
set_option maxHeartbeats 2000000 in
theorem printed_any (ln : Bool) (x : V) (v : Value) (w : World) (h : Rd w w.heap.size x v) (hf : FltV x) (he : Env w w.heap.size) : Calls Tryz.prog 51 #[v, .bool ln] w (fun e w' => e = .returned (.tuple #[.string (printV ln x).1, .int .i64 (printV ln x).2]) ∧ Below w.heap.size w w') := by
  have HK := Lib.hid (check_out x v w h)
  have ho := h.one
  by_cases hq : (partV x 1 ⟨0, 0, 0⟩).1 = true
  · have hc := checkV_yes hq
    have hfit := fit_of x w _ v 0 ⟨0, 0, 0⟩ h hf (by decide) hq
    have hlen : cntV x ≤ 16384 := by have h1 := hfit.2.1; have h2 := hfit.2.2; simp only at h1; omega
    have HP : Hid (printV ln x = (⟨(putV ln x 0).toArray⟩, 0)) := Lib.hid (by unfold printV; rw [if_pos (by rw [hc])])
    have HV := Lib.hid (fun (W : World) (hb : Below w.heap.size w W) (bp : Nat) (hp : Pr W w.heap.size bp ln []) => val_any ln x v 0 [] w.heap.size bp W (h.below hb) hfit.1 (by decide) (he.below hb) hp (by simp only [List.length_nil]; omega))
    have HNP := Lib.hid (fun (W : World) (hb : Below w.heap.size w W) => (show Pr (W.alloc (.cells #[.pointer none, .slice none 0 0, .bool ln] 194)) w.heap.size W.heap.size ln [] from .inl ⟨hb.size, .slice none 0 0, Array.getElem?_push_size, OwnB.nil _ _, by simp [Value.ownBlock]⟩))
    have HS := Lib.hid (fun (W : World) (bp : Nat) (l : List UInt8) (hp : Pr W w.heap.size bp ln l) (h0 : l ≠ []) => pstring_any w.heap.size bp ln l W hp h0)
    have hne : putV ln x 0 ≠ [] := put_ne ln x 0 hfit.1
    have HC2 : Hid (Calls Tryz.prog 13 #[v] w (fun e w' => e = .returned (.tuple #[.int .i64 0, .int .i64 0]) ∧ Below w.heap.size w w')) := Lib.hid (by have := HK.out; unfold CheckPost at this; rw [hc] at this; exact this)
    clear hc hfit hlen h he hf HK
    go_enter Tryz.func51, Tryz.ntmps51
    go_wp2_with fail
    refine HC2.out.mono ?_
    rintro e w1 ⟨rfl, hb1⟩
    go_wp2_with fail
    refine (HV.out _ (hb1.alloc hb1.size _) w1.heap.size (HNP.out w1 hb1)).mono ?_
    rintro e w2 ⟨rfl, hp2, hk2⟩
    rw [List.nil_append] at hp2
    go_wp2_with fail
    refine (HS.out w2 w1.heap.size _ hp2 hne).mono ?_
    rintro e w3 ⟨rfl, hb3⟩
    go_wp2
    go_ret2
    exact ⟨by rw [HP.out]; rfl, (hb1.alloc hb1.size _).trans (hk2.1.trans hb3)⟩
  · have hq2 : (partV x 1 ⟨0, 0, 0⟩).1 = false := by cases hh : (partV x 1 ⟨0, 0, 0⟩).1; rfl; exact absurd hh hq
    have hw := part_why x 1 ⟨0, 0, 0⟩ hq2
    have hc := checkV_no hq2
    have HP : Hid (printV ln x = (ByteArray.empty, (checkV x).2)) := Lib.hid (by unfold printV; rw [if_neg (by rw [hc]; exact hw)])
    have hn : ((checkV x).2 : Int) ≠ 0 := by rw [hc]; omega
    have hb : (((checkV x).2 : Int) != 0) = true := by rw [bne_iff_ne]; exact hn
    unfold CheckPost at HK
    generalize (checkV x).2 = n2 at *
    generalize (checkV x).1 = n1 at *
    clear hc hw hq hq2 h he hf
    go_enter Tryz.func51, Tryz.ntmps51
    go_wp2_with fail
    refine HK.out.mono ?_
    rintro e w1 ⟨rfl, hb1⟩
    go_wp2
    go_ret2
    exact ⟨by rw [HP.out]; rfl, hb1⟩
set_option maxRecDepth 100000 in
set_option maxHeartbeats 1000000 in
theorem Print_any (x : V) (v : Value) (w : World) (h : Rd w w.heap.size x v) (hf : FltV x) (he : Env w w.heap.size) : Calls Tryz.prog 16 #[v] w (fun e w' => e = .returned (.tuple #[.string (printV false x).1, .int .i64 (printV false x).2]) ∧ Below w.heap.size w w') := by
  have H := Lib.hid (printed_any false x v w h hf he)
  have ho := h.one
  generalize (printV false x).1 = r1 at *
  generalize (printV false x).2 = r2 at *
  clear h hf he
  go_enter Tryz.func16, Tryz.ntmps16
  go_wp2_with fail
  refine H.out.mono ?_
  rintro e w1 ⟨rfl, hb1⟩
  go_wp2
  go_ret2
  exact ⟨rfl, hb1⟩
set_option maxRecDepth 100000 in
set_option maxHeartbeats 1000000 in
theorem Lines_any (x : V) (v : Value) (w : World) (h : Rd w w.heap.size x v) (hf : FltV x) (he : Env w w.heap.size) : Calls Tryz.prog 31 #[v] w (fun e w' => e = .returned (.tuple #[.string (printV true x).1, .int .i64 (printV true x).2]) ∧ Below w.heap.size w w') := by
  have H := Lib.hid (printed_any true x v w h hf he)
  have ho := h.one
  generalize (printV true x).1 = r1 at *
  generalize (printV true x).2 = r2 at *
  clear h hf he
  go_enter Tryz.func31, Tryz.ntmps31
  go_wp2_with fail
  refine H.out.mono ?_
  rintro e w1 ⟨rfl, hb1⟩
  go_wp2
  go_ret2
  exact ⟨rfl, hb1⟩
end Go.Proofs.YtobpkelblpdajaaGreatDoor
