/- Walk: the document's put of a dict, of a record. -/
import Derived.Test.YtobpkelblpdajaaGreatDoorPR34
set_option linter.unusedVariables false
set_option linter.unusedSimpArgs false
set_option linter.unusedSectionVars false
namespace Go.Proofs.YtobpkelblpdajaaGreatDoor
open Go Go.RowKit
set_option maxRecDepth 100000 in
set_option maxHeartbeats 4000000 in
theorem rput_10_false (b : Bool) (i : Int) (f : Nat) (t : ByteArray) (bs : List UInt8) (r : Int) (l : List Tm) (d : List (ByteArray × Tm)) (c : ByteArray) (v : Int) (ih : ∀ x ∈ d, RPutC false x.2) : RPutC false (.mk 10 b i f t bs r l d c v) := by
  rintro x u L B w dp ⟨Ab, cb, Al, cl, Ad, cd, rfl, hk, hi, ht, hbl, ⟨hbn, hbs⟩, hr0, hr1, hc, hv, ⟨hll, hl⟩, ⟨hdl, hd⟩⟩ hBw hown hfit hlen
  obtain ⟨i0, hi0, hz0, hz1, hz2⟩ := info_parts Tryz.infoByte
  have hBV : builtV (.mk 10 b i f t bs r l d c v) = .record c v (builtD d) := by simp [builtV]
  rw [hBV] at hfit hlen ⊢
  obtain ⟨hd64, hfc, hfv1, hfv2, hl4, hfl⟩ := hfit
  have hbl2 : (builtD d).length = d.length := by rw [builtD_eq]; simp
  rw [hbl2] at hl4
  have hcv : cntV (.record c v (builtD d)) = cntD (builtD d) + 1 := rfl
  rw [hcv] at hlen
  have hee := fun (k : Nat) (hk : k ≤ d.length) => eachD_len false (builtD d) dp hd64 hfl k (by omega)
  have hct := fun (k : Nat) (x : ByteArray × V) (hx : (builtD d)[k]? = some x) => cntD_take (builtD d) k x hx
  obtain ⟨Lr, hLr⟩ : ∃ Q, Q = L ++ (c.data.toList ++ 47 :: Lib.itoa v) := ⟨_, rfl⟩
  have hlr : Lr.length ≤ L.length + 100 := by rw [hLr, List.length_append]; have := itoa_short (n := v) ⟨by omega, by omega⟩; have := size_list c; simp only [List.length_append, List.length_cons]; omega
  have HT : Hid (L ++ putV false (.record c v (builtD d)) dp = (Lr ++ 123 :: eachT false (bfD false (builtD d) dp) dp d.length) ++ (closeT false d.length dp ++ [125])) := Lib.hid (by
    have := putD_each false (builtD d) dp d.length (by omega)
    rw [List.drop_of_length_le (by omega), putD, List.append_nil] at this
    rw [hLr, putV, this, hbl2]; simp)
  have HEA : Hid (∀ (k : Nat) (p : ByteArray × Tm), d[k]? = some p → Lr ++ 123 :: eachT false (bfD false (builtD d) dp) dp (k + 1) = (Lr ++ 123 :: eachT false (bfD false (builtD d) dp) dp k) ++ (sepT false k dp ++ ((p.1.data.toList ++ [58, 32]) ++ putV false (builtV p.2) (dp + 1)))) := Lib.hid (fun k p hp => by
    rw [eachT]; unfold bfD; rw [show elD (builtD d) k = (p.1, builtV p.2) by simp [elD, builtD_eq, hp]]; simp)
  have HLB : Hid (∀ (k : Nat) (p : ByteArray × Tm), d[k]? = some p → (Lr ++ 123 :: eachT false (bfD false (builtD d) dp) dp k).length + 1000 + 1048576 * cntV (builtV p.2) ≤ 137438953472 ∧ Fit (builtV p.2) (dp + 1) ∧ p.1.size ≤ 32) := Lib.hid (fun k p hp => by
    have hk := (List.getElem?_eq_some_iff.1 hp).1
    have h1 := hee k (by omega)
    have h2 := hct k (p.1, builtV p.2) (by simp [builtD_eq, hp])
    have h3 := hfl.at_ (p.1, builtV p.2) (by rw [builtD_eq]; exact List.mem_map_of_mem (f := fun p : ByteArray × Tm => (p.1, builtV p.2)) (List.mem_of_getElem? hp))
    refine ⟨?_, h3.2, h3.1⟩
    simp only at h2
    rw [List.length_append, List.length_cons]; omega)
  have HLE : Hid ((Lr ++ 123 :: eachT false (bfD false (builtD d) dp) dp d.length).length + 1000 ≤ 137438953472) := Lib.hid (by
    have h1 := hee d.length (by omega)
    rw [List.take_of_length_le (by omega)] at h1
    rw [List.length_append, List.length_cons]; omega)
  have hn9 : L.length + 200 ≤ 137438953472 := by omega
  have HLR := Lib.hid hLr
  have HET0 : Hid (eachT false (bfD false (builtD d) dp) dp 0 = []) := Lib.hid rfl
  clear hee hct hfl hlen hBV hbl2 hcv hLr hlr
  generalize eachT false (bfD false (builtD d) dp) dp = ET at *
  have HTL : Hid (EntsAt w B Ad d) := Lib.hid hd
  obtain ⟨A0, c0, rfl⟩ := ownsRow_form hown
  have hrA := RK.alloc (RK.refl B w) hBw (.cells #[.int .i64 10, .bool b, .int .i64 i, .float .f64 f, .string t, .slice Ab bs.length cb, .int .u64 r, .slice Al l.length cl, .slice Ad d.length cd, .string c, .int .i64 v] 29)
  have HRA := Lib.hid hrA
  have HB0 : Hid ((w.alloc (.cells #[.int .i64 10, .bool b, .int .i64 i, .float .f64 f, .string t, .slice Ab bs.length cb, .int .u64 r, .slice Al l.length cl, .slice Ad d.length cd, .string c, .int .i64 v] 29)).heap[w.heap.size]? = some (.cells #[.int .i64 10, .bool b, .int .i64 i, .float .f64 f, .string t, .slice Ab bs.length cb, .int .u64 r, .slice Al l.length cl, .slice Ad d.length cd, .string c, .int .i64 v] 29 (0, 0))) := Lib.hid (heap_alloc_new _ _)
  have hoB := OwnB.below hown ((Below.refl w.heap.size w).alloc (Nat.le_refl _) (.cells #[.int .i64 10, .bool b, .int .i64 i, .float .f64 f, .string t, .slice Ab bs.length cb, .int .u64 r, .slice Al l.length cl, .slice Ad d.length cd, .string c, .int .i64 v] 29))
  have hB0 : B ≤ (w.alloc (.cells #[.int .i64 10, .bool b, .int .i64 i, .float .f64 f, .string t, .slice Ab bs.length cb, .int .u64 r, .slice Al l.length cl, .slice Ad d.length cd, .string c, .int .i64 v] 29)).heap.size := by simp; omega
  have hrB := RK.refl B (w.alloc (.cells #[.int .i64 10, .bool b, .int .i64 i, .float .f64 f, .string t, .slice Ab bs.length cb, .int .u64 r, .slice Al l.length cl, .slice Ad d.length cd, .string c, .int .i64 v] 29))
  have hsB := hB0
  clear hrA hown hl hd hbs hbn hbl hll hdl
  have HBK : Hid (∀ (x : Nat) (y : Int) (W : World), y = (x : Int) → Calls Tryz.prog 124 #[.bool false, .int .i64 y] W (fun e w' => e = .returned (.slice none 0 0) ∧ W = w')) := Lib.hid (fun x y W h => by rw [h]; exact breaks_no x W)
  have HDC : Hid (∀ (x : Int) (W : World), x = v → Calls Tryz.prog 76 #[.int .u64 x] W (TextPost (Lib.itoa v) W)) := Lib.hid (fun x W h => by
    have h2 := dec_any v.toNat (by omega) W
    have h3 : Lib.itoa v = Lib.decDigits v.toNat := by unfold Lib.itoa; rw [if_neg (by omega)]
    rw [h, h3]; rwa [show ((v.toNat : Nat) : Int) = v by omega] at h2)
  have hlv := itoa_short (n := v) ⟨by omega, by omega⟩
  have kv : IntKind.u64.wrap v = v := by rw [IntKind.wrap_u64]; omega
  have hcs : c.data.toList.length = c.size := size_list c
  obtain ⟨CL, hCL⟩ : ∃ Q, Q = c.data.toList := ⟨_, rfl⟩
  rw [← hCL] at hcs
  have hcl : CL.length ≤ 32 := by omega
  have HCL := Lib.hid hCL
  have HCS := Lib.hid hcs
  generalize Lib.itoa v = IV at *
  have siv := tsize IV
  clear hCL hcs
  unfold termOf
  go_enter Tryz.func69, Tryz.ntmps69
  go_wp2_with (at_builtin; refine Lib.wpList_append_own_string _ rfl (.tmp 33) (.tmp 35) 23 9 rfl B 5 i0 Tryz.underlying23 Tryz.underlying9 hi0 hz0 hz1 hz2 _ L.length _ rfl hoB c rfl (by skip; unfold maxLen; omega) (by skip; omega) hsB ?_; intro v1 w1 hn1 hg1 _; refine Hid.out ?_)
  have ho1 := OwnB.to (m := L ++ CL) (OwnB.sapp hn1) (by rw [HCL.out])
  have hr1 := RK.app0 hrB hsB hoB hg1
  have hs1 := Nat.le_trans hB0 hr1.1.size
  obtain ⟨L1, hL1⟩ : ∃ Q, Q = L ++ CL := ⟨_, rfl⟩
  have hl1 : L1.length ≤ L.length + 32 := by rw [hL1, List.length_append]; omega
  rw [← hL1] at ho1
  have HL1 := Lib.hid hL1
  obtain ⟨A1, c1, hv1⟩ := ownsRow_form ho1
  subst hv1
  clear hn1 hg1 hL1 hoB
  refine Lib.hid ?_
  go_wp2_with (at_builtin; refine wpList_append_own _ rfl (.tmp 37) (.tmp 38) 23 rfl B 5 i0 _ 1 1 Tryz.underlying23 hi0 hz0 hz1 hz2 rfl (by omega) _ L1.length _ rfl (World.ownsRow.alloc ho1 _) ⟨w1.heap.size, 0, none⟩ 1 1 [_] rfl rfl (news_at rfl) (one_of1 rfl) (by unfold maxLen; omega) (by omega) (by simp; omega) ?_; intro v2 w2 hn2 hg2 _; refine Hid.out ?_)
  have ho2 := OwnB.app (m := [47]) rfl (by rfl) hn2
  have hr2 := RK.app1 hr1 hs1 ho1 hg2
  have hs2 := Nat.le_trans hB0 hr2.1.size
  obtain ⟨L2, hL2⟩ : ∃ Q, Q = L1 ++ [47] := ⟨_, rfl⟩
  have hl2 : L2.length ≤ L1.length + 1 := by rw [hL2, List.length_append]; exact Nat.le_refl _
  rw [← hL2] at ho2
  have HL2 := Lib.hid hL2
  obtain ⟨A2, c2, hv2⟩ := ownsRow_form ho2
  subst hv2
  clear hn2 hg2 hL2 ho1
  refine Lib.hid ?_
  have hbx := RK.block hr2 HB0.out (by intro c fz h; injection h with _ h _; exact absurd h (by decide))
  have d10 : w2.cell? ⟨w.heap.size, 10, none⟩ = some (.int .i64 v) := by rw [Lib.cell_of_heap hbx]; rfl
  clear hbx
  go_wp2_with fail
  clear d10
  refine (HDC.out _ _ ?hv).mono ?_
  case hv => first | rfl | exact kv
  rintro e wd ⟨rfl, hbd⟩
  have hox2 := OwnB.below ho2 hbd
  have hrx2 := RK.call hr2 hs2 hbd
  have hsx2 := Nat.le_trans hB0 hrx2.1.size
  clear ho2
  clear hbd
  go_wp2_with (at_builtin; refine Lib.wpList_append_own_string _ rfl (.tmp 40) (.tmp 44) 23 9 rfl B 5 i0 Tryz.underlying23 Tryz.underlying9 hi0 hz0 hz1 hz2 _ L2.length _ rfl hox2 ⟨IV.toArray⟩ rfl (by rw [siv]; unfold maxLen; omega) (by rw [siv]; omega) hsx2 ?_; intro v3 w3 hn3 hg3 _; refine Hid.out ?_)
  have ho3 := OwnB.tapp hn3
  have hr3 := RK.app0 hrx2 hsx2 hox2 hg3
  have hs3 := Nat.le_trans hB0 hr3.1.size
  obtain ⟨L3, hL3⟩ : ∃ Q, Q = L2 ++ IV := ⟨_, rfl⟩
  have hl3 : L3.length ≤ L2.length + 30 := by rw [hL3, List.length_append]; omega
  rw [← hL3] at ho3
  have HL3 := Lib.hid hL3
  obtain ⟨A3, c3, hv3⟩ := ownsRow_form ho3
  subst hv3
  clear hn3 hg3 hL3 hox2
  refine Lib.hid ?_
  have hbx := RK.block hr3 HB0.out (by intro c fz h; injection h with _ h _; exact absurd h (by decide))
  have d0 : w3.cell? ⟨w.heap.size, 0, none⟩ = some (.int .i64 10) := by rw [Lib.cell_of_heap hbx]; rfl
  have d8 : w3.cell? ⟨w.heap.size, 8, none⟩ = some (.slice Ad d.length cd) := by rw [Lib.cell_of_heap hbx]; rfl
  clear hbx
  go_wp2_with (at_builtin; refine wpList_append_own _ rfl (.tmp 55) (.tmp 57) 23 rfl B 5 i0 _ 1 1 Tryz.underlying23 hi0 hz0 hz1 hz2 rfl (by omega) _ L3.length _ rfl (World.ownsRow.alloc ho3 _) ⟨w3.heap.size, 0, none⟩ 1 1 [_] rfl rfl (news_at rfl) (one_of1 rfl) (by unfold maxLen; omega) (by omega) (by simp; omega) ?_; intro v4 w4 hn4 hg4 _; refine Hid.out ?_)
  have ho4 := OwnB.app (m := [123]) rfl (by rfl) hn4
  have hr4 := RK.app1 hr3 hs3 ho3 hg4
  have hs4 := Nat.le_trans hB0 hr4.1.size
  obtain ⟨L4, hL4⟩ : ∃ Q, Q = L3 ++ [123] := ⟨_, rfl⟩
  have hl4 : L4.length ≤ L3.length + 1 := by rw [hL4, List.length_append]; exact Nat.le_refl _
  rw [← hL4] at ho4
  have HL4 := Lib.hid hL4
  obtain ⟨A4, c4, hv4⟩ := ownsRow_form ho4
  subst hv4
  clear hn4 hg4 hL4 ho3
  refine Lib.hid ?_
  clear d0 d8
  go_wp2_with fail
  go_loopg [0, 12] d.length (fun g y j wr => ∃ k : Nat, j = .int .i64 k ∧ k + g = d.length ∧ OwnB wr B y (Lr ++ 123 :: ET k) ∧ RK B (w.alloc (.cells #[.int .i64 10, .bool b, .int .i64 i, .float .f64 f, .string t, .slice Ab bs.length cb, .int .u64 r, .slice Al l.length cl, .slice Ad d.length cd, .string c, .int .i64 v] 29)) wr)
  case atStart => exact ⟨0, rfl, by omega, ho4.to (by rw [HL4.out, HL3.out, HL2.out, HL1.out, HLR.out, HCL.out, HET0.out]; simp), hr4⟩
  case round =>
    obtain ⟨k, rfl, hkg, hown, hr0⟩ := hrel
    have hs0 := Nat.le_trans hB0 hr0.1.size
    cases gk with
    | zero =>
      obtain rfl : k = d.length := by omega
      have hlp : (Lr ++ 123 :: ET d.length).length + 1000 ≤ 137438953472 := HLE.out
      obtain ⟨Lp, hLp⟩ : ∃ Q, Q = Lr ++ 123 :: ET d.length := ⟨_, rfl⟩
      rw [← hLp] at hown hlp
      have HLP := Lib.hid hLp
      clear hLp HLE HLB HEA
      obtain ⟨A0, c0, rfl⟩ := ownsRow_form hown
      by_cases h0 : d.length = 0
      · have hq : ¬ (0 < (d.length : Int)) := by omega
        have HC : Hid (closeT false d.length dp = []) := Lib.hid (by unfold closeT; rw [h0]; simp)
        clear h0
        go_wp2_with (at_builtin; refine wpList_append_own _ rfl (.tmp 122) (.tmp 124) 23 rfl B 5 i0 _ 1 1 Tryz.underlying23 hi0 hz0 hz1 hz2 rfl (by omega) _ Lp.length _ rfl (World.ownsRow.alloc hown _) ⟨wr.heap.size, 0, none⟩ 1 1 [_] rfl rfl (news_at rfl) (one_of1 rfl) (by unfold maxLen; omega) (by omega) (by simp; omega) ?_; intro v1 w1 hn1 hg1 _; refine Hid.out ?_)
        have ho1 := OwnB.app (m := [125]) rfl (by rfl) hn1
        have hr1 := RK.app1 hr0 hs0 hown hg1
        have hs1 := Nat.le_trans hB0 hr1.1.size
        obtain ⟨L1, hL1⟩ : ∃ Q, Q = Lp ++ [125] := ⟨_, rfl⟩
        have hl1 : L1.length ≤ Lp.length + 1 := by rw [hL1, List.length_append]; exact Nat.le_refl _
        rw [← hL1] at ho1
        have HL1 := Lib.hid hL1
        obtain ⟨A1, c1, hv1⟩ := ownsRow_form ho1
        subst hv1
        clear hn1 hg1 hL1 hown
        refine Lib.hid ?_
        go_wp2_with fail
        go_ret
        exact ⟨_, rfl, OwnB.to ho1 (by rw [HT.out, HC.out, ← HLP.out, HL1.out]; simp), HRA.out.trans hr1⟩
      · have hq : 0 < (d.length : Int) := by omega
        have HC : Hid (closeT false d.length dp = []) := Lib.hid (by unfold closeT; simp)
        clear h0
        go_wp2_with fail
        refine (HBK.out dp _ _ rfl).mono ?_
        rintro e wb ⟨rfl, rfl⟩
        have kap := fun (ty : TypeId) => run_append_of_nil (P := Tryz.prog) wr B 23 ty 5 i0 1 Tryz.underlying23 hi0 _ _ _ hown 0
        go_wp2_with (at_builtin; refine Lib.wpList_append_run _ rfl (.tmp 117) (.tmp 120) _ _ rfl _ _ rfl rfl _ _ (kap _) ?_; refine Hid.out ?_)
        clear kap
        refine Lib.hid ?_
        go_wp2_with (at_builtin; refine wpList_append_own _ rfl (.tmp 122) (.tmp 124) 23 rfl B 5 i0 _ 1 1 Tryz.underlying23 hi0 hz0 hz1 hz2 rfl (by omega) _ Lp.length _ rfl (World.ownsRow.alloc hown _) ⟨wr.heap.size, 0, none⟩ 1 1 [_] rfl rfl (news_at rfl) (one_of1 rfl) (by unfold maxLen; omega) (by omega) (by simp; omega) ?_; intro v1 w1 hn1 hg1 _; refine Hid.out ?_)
        have ho1 := OwnB.app (m := [125]) rfl (by rfl) hn1
        have hr1 := RK.app1 hr0 hs0 hown hg1
        have hs1 := Nat.le_trans hB0 hr1.1.size
        obtain ⟨L1, hL1⟩ : ∃ Q, Q = Lp ++ [125] := ⟨_, rfl⟩
        have hl1 : L1.length ≤ Lp.length + 1 := by rw [hL1, List.length_append]; exact Nat.le_refl _
        rw [← hL1] at ho1
        have HL1 := Lib.hid hL1
        obtain ⟨A1, c1, hv1⟩ := ownsRow_form ho1
        subst hv1
        clear hn1 hg1 hL1 hown
        refine Lib.hid ?_
        go_wp2_with fail
        go_ret
        exact ⟨_, rfl, OwnB.to ho1 (by rw [HT.out, HC.out, ← HLP.out, HL1.out]; simp), HRA.out.trans hr1⟩
    | succ g =>
      obtain ⟨p, hp⟩ : ∃ p, d[k]? = some p := ⟨_, List.getElem?_eq_getElem (by omega)⟩
      obtain ⟨hlp, hfp, hnm⟩ := HLB.out k p hp
      have HE := Lib.hid (HEA.out k p hp)
      obtain ⟨Lp, hLp⟩ : ∃ Q, Q = Lr ++ 123 :: ET k := ⟨_, rfl⟩
      rw [← hLp] at hown hlp
      rw [← hLp] at HE
      clear hLp HLB HEA HLE HT
      obtain ⟨A0, c0, rfl⟩ := ownsRow_form hown
      obtain ⟨bl, off, rfl, hbB, hrt⟩ := EntsAt.at_ HTL.out (k := k) (by omega)
      obtain ⟨en, -, vs, e1, hvs⟩ := RdTD.iff.1 hrt k p hp
      obtain ⟨NM, p⟩ := p
      simp only at en hvs hlp hfp hnm HE
      have HVS := Lib.hid hvs
      have HE1 := Lib.hid e1
      have HEN := Lib.hid en
      have HCP := Lib.hid (fun (D : Nat) (x : Int) (u : Value) (Q : List UInt8) (W : World) (hx : x = (D : Int)) (h1 : RdT W B p vs) (h2 : B ≤ W.heap.size) (h3 : OwnB W B u Q) (h4 : Fit (builtV p) D) (h5 : Q.length + 1048576 * cntV (builtV p) ≤ 137438953472) => (by rw [hx]; exact ih (NM, p) (List.mem_of_getElem? hp) vs u Q B W D h1 h2 h3 h4 h5 : Calls Tryz.prog 69 #[u, termOf vs, .bool false, .int .i64 x] W (XKPost B (Q ++ putV false (builtV p) D) W)))
      obtain ⟨n0, n1, n2, n3, n4, n5, n6, n7, n8, n9, n10, rfl, h1c⟩ := hvs.eleven
      have hlt : k < d.length := by omega
      have hlt2 : (k : Int) < (d.length : Int) := by omega
      generalize cntV (builtV p) = NP at *
      have hns : NM.data.toList.length = NM.size := size_list NM
      obtain ⟨NL, hNL⟩ : ∃ Q, Q = NM.data.toList := ⟨_, rfl⟩
      rw [← hNL] at hns HE
      have hnl : NL.length ≤ 32 := by omega
      have HNL := Lib.hid hNL
      clear hp hrt hvs e1 ih HTL h1c en hNL hns
      by_cases hk0 : k = 0
      · subst hk0
        go_wp2_with fail
        refine (HBK.out (dp + 1) _ _ ?hy).mono ?_
        case hy => simp
        rintro e wb ⟨rfl, rfl⟩
        have HSE : Hid (sepT false 0 dp = []) := Lib.hid (by unfold sepT; rw [if_neg (by decide), if_neg (by omega)])
        have kap := fun (ty : TypeId) => run_append_of_nil (P := Tryz.prog) wr B 23 ty 5 i0 1 Tryz.underlying23 hi0 _ _ _ hown 0
        go_wp2_with (at_builtin; refine Lib.wpList_append_run _ rfl (.tmp 74) (.tmp 78) _ _ rfl _ _ rfl rfl _ _ (kap _) ?_; refine Hid.out ?_)
        clear kap
        refine Lib.hid ?_
        have hbx := RK.block hr0 HB0.out (by intro c fz h; injection h with _ h _; exact absurd h (by decide))
        have d0 : wr.cell? ⟨w.heap.size, 0, none⟩ = some (.int .i64 10) := by rw [Lib.cell_of_heap hbx]; rfl
        have d8 : wr.cell? ⟨w.heap.size, 8, none⟩ = some (.slice (some ⟨bl, off, none⟩) d.length cd) := by rw [Lib.cell_of_heap hbx]; rfl
        have hbel : Below B w wr := (HRA.out.trans hr0).1
        have en := (hbel.cell (p := ⟨bl, off + 0 * 12, none⟩) hbB).trans HEN.out
        simp only [Nat.zero_mul, Nat.add_zero] at en
        clear hbx hbel
        go_wp2_with (at_builtin; refine Lib.wpList_append_own_string _ rfl (.tmp 93) (.tmp 99) 23 9 rfl B 5 i0 Tryz.underlying23 Tryz.underlying9 hi0 hz0 hz1 hz2 _ Lp.length _ rfl hown NM rfl (by skip; unfold maxLen; omega) (by skip; omega) hs0 ?_; intro v1 w1 hn1 hg1 _; refine Hid.out ?_)
        have ho1 := OwnB.to (m := Lp ++ NL) (OwnB.sapp hn1) (by rw [HNL.out])
        have hr1 := RK.app0 hr0 hs0 hown hg1
        have hs1 := Nat.le_trans hB0 hr1.1.size
        obtain ⟨L1, hL1⟩ : ∃ Q, Q = Lp ++ NL := ⟨_, rfl⟩
        have hl1 : L1.length ≤ Lp.length + 32 := by rw [hL1, List.length_append]; omega
        rw [← hL1] at ho1
        have HL1 := Lib.hid hL1
        obtain ⟨A1, c1, hv1⟩ := ownsRow_form ho1
        subst hv1
        clear hn1 hg1 hL1 hown
        refine Lib.hid ?_
        clear d0 d8 en
        go_wp2_with (at_builtin; refine wpList_append_own _ rfl (.tmp 101) (.tmp 102) 23 rfl B 5 i0 _ 1 1 Tryz.underlying23 hi0 hz0 hz1 hz2 rfl (by omega) _ L1.length _ rfl (World.ownsRow.alloc ho1 _) ⟨w1.heap.size, 0, none⟩ 2 2 [_, _] rfl rfl (news_at rfl) (one_of2 rfl rfl) (by unfold maxLen; omega) (by omega) (by simp; omega) ?_; intro v2 w2 hn2 hg2 _; refine Hid.out ?_)
        have ho2 := OwnB.app (m := [58, 32]) rfl (by rfl) hn2
        have hr2 := RK.app1 hr1 hs1 ho1 hg2
        have hs2 := Nat.le_trans hB0 hr2.1.size
        obtain ⟨L2, hL2⟩ : ∃ Q, Q = L1 ++ [58, 32] := ⟨_, rfl⟩
        have hl2 : L2.length ≤ L1.length + 2 := by rw [hL2, List.length_append]; exact Nat.le_refl _
        rw [← hL2] at ho2
        have HL2 := Lib.hid hL2
        obtain ⟨A2, c2, hv2⟩ := ownsRow_form ho2
        subst hv2
        clear hn2 hg2 hL2 ho1
        refine Lib.hid ?_
        have hbx := RK.block hr2 HB0.out (by intro c fz h; injection h with _ h _; exact absurd h (by decide))
        have d0 : w2.cell? ⟨w.heap.size, 0, none⟩ = some (.int .i64 10) := by rw [Lib.cell_of_heap hbx]; rfl
        have d8 : w2.cell? ⟨w.heap.size, 8, none⟩ = some (.slice (some ⟨bl, off, none⟩) d.length cd) := by rw [Lib.cell_of_heap hbx]; rfl
        have hbel : Below B w w2 := (HRA.out.trans hr2).1
        have e1' := HE1.out.keep (fun q hq => hbel.cell (by rw [hq]; exact hbB))
        have hvs2 := Lib.hid (RdT.below HVS.out hbel)
        simp only [Nat.zero_mul, Nat.add_zero] at e1'
        have q0 := e1' 0 _ rfl
        have q1 := e1' 1 _ rfl
        have q2 := e1' 2 _ rfl
        have q3 := e1' 3 _ rfl
        have q4 := e1' 4 _ rfl
        have q5 := e1' 5 _ rfl
        have q6 := e1' 6 _ rfl
        have q7 := e1' 7 _ rfl
        have q8 := e1' 8 _ rfl
        have q9 := e1' 9 _ rfl
        have q10 := e1' 10 _ rfl
        simp only [Nat.add_zero] at q0
        clear e1' hbx hbel HE1
        go_wp2_with fail
        refine (HCP.out (dp + 1) _ _ _ _ ?hx hvs2.out hs2 ho2 hfp (by omega)).mono ?_
        case hx => simp
        rintro e wz ⟨vz, rfl, hoz, hrz⟩
        have HOZ : Hid (OwnB wz B vz (Lr ++ 123 :: ET (0 + 1))) := Lib.hid (OwnB.to hoz (by rw [HE.out, HSE.out, HL2.out, HL1.out]; simp))
        have HRZ := Lib.hid (hr2.trans hrz)
        obtain ⟨Az, cz, hvz⟩ := ownsRow_form hoz
        subst hvz
        generalize (L2 ++ putV false (builtV p) (dp + 1)) = Lz at *
        clear hoz hrz
        go_wp2_with fail
        go_roundg g
        case rel => exact ⟨0 + 1, by first | go_num | simp, by omega, HOZ.out, HRZ.out⟩
        case measure => omega
      · have hq : 0 < (k : Int) := by omega
        go_wp2_with (at_builtin; refine wpList_append_own _ rfl (.tmp 66) (.tmp 67) 23 rfl B 5 i0 _ 1 1 Tryz.underlying23 hi0 hz0 hz1 hz2 rfl (by omega) _ Lp.length _ rfl (World.ownsRow.alloc hown _) ⟨wr.heap.size, 0, none⟩ 1 1 [_] rfl rfl (news_at rfl) (one_of1 rfl) (by unfold maxLen; omega) (by omega) (by simp; omega) ?_; intro v1 w1 hn1 hg1 _; refine Hid.out ?_)
        have ho1 := OwnB.app (m := [44]) rfl (by rfl) hn1
        have hr1 := RK.app1 hr0 hs0 hown hg1
        have hs1 := Nat.le_trans hB0 hr1.1.size
        obtain ⟨L1, hL1⟩ : ∃ Q, Q = Lp ++ [44] := ⟨_, rfl⟩
        have hl1 : L1.length ≤ Lp.length + 1 := by rw [hL1, List.length_append]; exact Nat.le_refl _
        rw [← hL1] at ho1
        have HL1 := Lib.hid hL1
        obtain ⟨A1, c1, hv1⟩ := ownsRow_form ho1
        subst hv1
        clear hn1 hg1 hL1 hown
        refine Lib.hid ?_
        go_wp2_with (at_builtin; refine wpList_append_own _ rfl (.tmp 71) (.tmp 72) 23 rfl B 5 i0 _ 1 1 Tryz.underlying23 hi0 hz0 hz1 hz2 rfl (by omega) _ L1.length _ rfl (World.ownsRow.alloc ho1 _) ⟨w1.heap.size, 0, none⟩ 1 1 [_] rfl rfl (news_at rfl) (one_of1 rfl) (by unfold maxLen; omega) (by omega) (by simp; omega) ?_; intro v2 w2 hn2 hg2 _; refine Hid.out ?_)
        have ho2 := OwnB.app (m := [32]) rfl (by rfl) hn2
        have hr2 := RK.app1 hr1 hs1 ho1 hg2
        have hs2 := Nat.le_trans hB0 hr2.1.size
        obtain ⟨L2, hL2⟩ : ∃ Q, Q = L1 ++ [32] := ⟨_, rfl⟩
        have hl2 : L2.length ≤ L1.length + 1 := by rw [hL2, List.length_append]; exact Nat.le_refl _
        rw [← hL2] at ho2
        have HL2 := Lib.hid hL2
        obtain ⟨A2, c2, hv2⟩ := ownsRow_form ho2
        subst hv2
        clear hn2 hg2 hL2 ho1
        refine Lib.hid ?_
        go_wp2_with fail
        refine (HBK.out (dp + 1) _ _ ?hy).mono ?_
        case hy => simp
        rintro e wb ⟨rfl, rfl⟩
        have HSE : Hid (sepT false k dp = [44, 32]) := Lib.hid (by unfold sepT; rw [if_neg (by decide), if_pos (by omega)])
        have kap := fun (ty : TypeId) => run_append_of_nil (P := Tryz.prog) w2 B 23 ty 5 i0 1 Tryz.underlying23 hi0 _ _ _ ho2 0
        go_wp2_with (at_builtin; refine Lib.wpList_append_run _ rfl (.tmp 74) (.tmp 78) _ _ rfl _ _ rfl rfl _ _ (kap _) ?_; refine Hid.out ?_)
        clear kap
        refine Lib.hid ?_
        have hbx := RK.block hr2 HB0.out (by intro c fz h; injection h with _ h _; exact absurd h (by decide))
        have d0 : w2.cell? ⟨w.heap.size, 0, none⟩ = some (.int .i64 10) := by rw [Lib.cell_of_heap hbx]; rfl
        have d8 : w2.cell? ⟨w.heap.size, 8, none⟩ = some (.slice (some ⟨bl, off, none⟩) d.length cd) := by rw [Lib.cell_of_heap hbx]; rfl
        have hbel : Below B w w2 := (HRA.out.trans hr2).1
        have en := (hbel.cell (p := ⟨bl, off + k * 12, none⟩) hbB).trans HEN.out
        clear hbx hbel
        go_wp2_with (at_builtin; refine Lib.wpList_append_own_string _ rfl (.tmp 93) (.tmp 99) 23 9 rfl B 5 i0 Tryz.underlying23 Tryz.underlying9 hi0 hz0 hz1 hz2 _ L2.length _ rfl ho2 NM rfl (by skip; unfold maxLen; omega) (by skip; omega) hs2 ?_; intro v3 w3 hn3 hg3 _; refine Hid.out ?_)
        have ho3 := OwnB.to (m := L2 ++ NL) (OwnB.sapp hn3) (by rw [HNL.out])
        have hr3 := RK.app0 hr2 hs2 ho2 hg3
        have hs3 := Nat.le_trans hB0 hr3.1.size
        obtain ⟨L3, hL3⟩ : ∃ Q, Q = L2 ++ NL := ⟨_, rfl⟩
        have hl3 : L3.length ≤ L2.length + 32 := by rw [hL3, List.length_append]; omega
        rw [← hL3] at ho3
        have HL3 := Lib.hid hL3
        obtain ⟨A3, c3, hv3⟩ := ownsRow_form ho3
        subst hv3
        clear hn3 hg3 hL3 ho2
        refine Lib.hid ?_
        clear d0 d8 en
        go_wp2_with (at_builtin; refine wpList_append_own _ rfl (.tmp 101) (.tmp 102) 23 rfl B 5 i0 _ 1 1 Tryz.underlying23 hi0 hz0 hz1 hz2 rfl (by omega) _ L3.length _ rfl (World.ownsRow.alloc ho3 _) ⟨w3.heap.size, 0, none⟩ 2 2 [_, _] rfl rfl (news_at rfl) (one_of2 rfl rfl) (by unfold maxLen; omega) (by omega) (by simp; omega) ?_; intro v4 w4 hn4 hg4 _; refine Hid.out ?_)
        have ho4 := OwnB.app (m := [58, 32]) rfl (by rfl) hn4
        have hr4 := RK.app1 hr3 hs3 ho3 hg4
        have hs4 := Nat.le_trans hB0 hr4.1.size
        obtain ⟨L4, hL4⟩ : ∃ Q, Q = L3 ++ [58, 32] := ⟨_, rfl⟩
        have hl4 : L4.length ≤ L3.length + 2 := by rw [hL4, List.length_append]; exact Nat.le_refl _
        rw [← hL4] at ho4
        have HL4 := Lib.hid hL4
        obtain ⟨A4, c4, hv4⟩ := ownsRow_form ho4
        subst hv4
        clear hn4 hg4 hL4 ho3
        refine Lib.hid ?_
        have hbx := RK.block hr4 HB0.out (by intro c fz h; injection h with _ h _; exact absurd h (by decide))
        have d0 : w4.cell? ⟨w.heap.size, 0, none⟩ = some (.int .i64 10) := by rw [Lib.cell_of_heap hbx]; rfl
        have d8 : w4.cell? ⟨w.heap.size, 8, none⟩ = some (.slice (some ⟨bl, off, none⟩) d.length cd) := by rw [Lib.cell_of_heap hbx]; rfl
        have hbel : Below B w w4 := (HRA.out.trans hr4).1
        have e1' := HE1.out.keep (fun q hq => hbel.cell (by rw [hq]; exact hbB))
        have hvs2 := Lib.hid (RdT.below HVS.out hbel)
        have q0 := e1' 0 _ rfl
        have q1 := e1' 1 _ rfl
        have q2 := e1' 2 _ rfl
        have q3 := e1' 3 _ rfl
        have q4 := e1' 4 _ rfl
        have q5 := e1' 5 _ rfl
        have q6 := e1' 6 _ rfl
        have q7 := e1' 7 _ rfl
        have q8 := e1' 8 _ rfl
        have q9 := e1' 9 _ rfl
        have q10 := e1' 10 _ rfl
        simp only [Nat.add_zero] at q0
        clear e1' hbx hbel HE1
        go_wp2_with fail
        refine (HCP.out (dp + 1) _ _ _ _ ?hx hvs2.out hs4 ho4 hfp (by omega)).mono ?_
        case hx => simp
        rintro e wz ⟨vz, rfl, hoz, hrz⟩
        have HOZ : Hid (OwnB wz B vz (Lr ++ 123 :: ET (k + 1))) := Lib.hid (OwnB.to hoz (by rw [HE.out, HSE.out, HL4.out, HL3.out, HL2.out, HL1.out]; simp))
        have HRZ := Lib.hid (hr4.trans hrz)
        obtain ⟨Az, cz, hvz⟩ := ownsRow_form hoz
        subst hvz
        generalize (L4 ++ putV false (builtV p) (dp + 1)) = Lz at *
        clear hoz hrz
        go_wp2_with fail
        go_roundg g
        case rel => exact ⟨k + 1, by first | go_num | simp, by omega, HOZ.out, HRZ.out⟩
        case measure => omega
set_option maxRecDepth 100000 in
set_option maxHeartbeats 4000000 in
theorem rput_10_true (b : Bool) (i : Int) (f : Nat) (t : ByteArray) (bs : List UInt8) (r : Int) (l : List Tm) (d : List (ByteArray × Tm)) (c : ByteArray) (v : Int) (ih : ∀ x ∈ d, RPutC true x.2) : RPutC true (.mk 10 b i f t bs r l d c v) := by
  rintro x u L B w dp ⟨Ab, cb, Al, cl, Ad, cd, rfl, hk, hi, ht, hbl, ⟨hbn, hbs⟩, hr0, hr1, hc, hv, ⟨hll, hl⟩, ⟨hdl, hd⟩⟩ hBw hown hfit hlen
  obtain ⟨i0, hi0, hz0, hz1, hz2⟩ := info_parts Tryz.infoByte
  have hBV : builtV (.mk 10 b i f t bs r l d c v) = .record c v (builtD d) := by simp [builtV]
  rw [hBV] at hfit hlen ⊢
  obtain ⟨hd64, hfc, hfv1, hfv2, hl4, hfl⟩ := hfit
  have hbl2 : (builtD d).length = d.length := by rw [builtD_eq]; simp
  rw [hbl2] at hl4
  have hcv : cntV (.record c v (builtD d)) = cntD (builtD d) + 1 := rfl
  rw [hcv] at hlen
  have hee := fun (k : Nat) (hk : k ≤ d.length) => eachD_len true (builtD d) dp hd64 hfl k (by omega)
  have hct := fun (k : Nat) (x : ByteArray × V) (hx : (builtD d)[k]? = some x) => cntD_take (builtD d) k x hx
  obtain ⟨Lr, hLr⟩ : ∃ Q, Q = L ++ (c.data.toList ++ 47 :: Lib.itoa v) := ⟨_, rfl⟩
  have hlr : Lr.length ≤ L.length + 100 := by rw [hLr, List.length_append]; have := itoa_short (n := v) ⟨by omega, by omega⟩; have := size_list c; simp only [List.length_append, List.length_cons]; omega
  have HT : Hid (L ++ putV true (.record c v (builtD d)) dp = (Lr ++ 123 :: eachT true (bfD true (builtD d) dp) dp d.length) ++ (closeT true d.length dp ++ [125])) := Lib.hid (by
    have := putD_each true (builtD d) dp d.length (by omega)
    rw [List.drop_of_length_le (by omega), putD, List.append_nil] at this
    rw [hLr, putV, this, hbl2]; simp)
  have HEA : Hid (∀ (k : Nat) (p : ByteArray × Tm), d[k]? = some p → Lr ++ 123 :: eachT true (bfD true (builtD d) dp) dp (k + 1) = (Lr ++ 123 :: eachT true (bfD true (builtD d) dp) dp k) ++ (sepT true k dp ++ ((p.1.data.toList ++ [58, 32]) ++ putV true (builtV p.2) (dp + 1)))) := Lib.hid (fun k p hp => by
    rw [eachT]; unfold bfD; rw [show elD (builtD d) k = (p.1, builtV p.2) by simp [elD, builtD_eq, hp]]; simp)
  have HLB : Hid (∀ (k : Nat) (p : ByteArray × Tm), d[k]? = some p → (Lr ++ 123 :: eachT true (bfD true (builtD d) dp) dp k).length + 1000 + 1048576 * cntV (builtV p.2) ≤ 137438953472 ∧ Fit (builtV p.2) (dp + 1) ∧ p.1.size ≤ 32) := Lib.hid (fun k p hp => by
    have hk := (List.getElem?_eq_some_iff.1 hp).1
    have h1 := hee k (by omega)
    have h2 := hct k (p.1, builtV p.2) (by simp [builtD_eq, hp])
    have h3 := hfl.at_ (p.1, builtV p.2) (by rw [builtD_eq]; exact List.mem_map_of_mem (f := fun p : ByteArray × Tm => (p.1, builtV p.2)) (List.mem_of_getElem? hp))
    refine ⟨?_, h3.2, h3.1⟩
    simp only at h2
    rw [List.length_append, List.length_cons]; omega)
  have HLE : Hid ((Lr ++ 123 :: eachT true (bfD true (builtD d) dp) dp d.length).length + 1000 ≤ 137438953472) := Lib.hid (by
    have h1 := hee d.length (by omega)
    rw [List.take_of_length_le (by omega)] at h1
    rw [List.length_append, List.length_cons]; omega)
  have hn9 : L.length + 200 ≤ 137438953472 := by omega
  have HLR := Lib.hid hLr
  have HET0 : Hid (eachT true (bfD true (builtD d) dp) dp 0 = []) := Lib.hid rfl
  clear hee hct hfl hlen hBV hbl2 hcv hLr hlr
  generalize eachT true (bfD true (builtD d) dp) dp = ET at *
  have HTL : Hid (EntsAt w B Ad d) := Lib.hid hd
  obtain ⟨A0, c0, rfl⟩ := ownsRow_form hown
  have hrA := RK.alloc (RK.refl B w) hBw (.cells #[.int .i64 10, .bool b, .int .i64 i, .float .f64 f, .string t, .slice Ab bs.length cb, .int .u64 r, .slice Al l.length cl, .slice Ad d.length cd, .string c, .int .i64 v] 29)
  have HRA := Lib.hid hrA
  have HB0 : Hid ((w.alloc (.cells #[.int .i64 10, .bool b, .int .i64 i, .float .f64 f, .string t, .slice Ab bs.length cb, .int .u64 r, .slice Al l.length cl, .slice Ad d.length cd, .string c, .int .i64 v] 29)).heap[w.heap.size]? = some (.cells #[.int .i64 10, .bool b, .int .i64 i, .float .f64 f, .string t, .slice Ab bs.length cb, .int .u64 r, .slice Al l.length cl, .slice Ad d.length cd, .string c, .int .i64 v] 29 (0, 0))) := Lib.hid (heap_alloc_new _ _)
  have hoB := OwnB.below hown ((Below.refl w.heap.size w).alloc (Nat.le_refl _) (.cells #[.int .i64 10, .bool b, .int .i64 i, .float .f64 f, .string t, .slice Ab bs.length cb, .int .u64 r, .slice Al l.length cl, .slice Ad d.length cd, .string c, .int .i64 v] 29))
  have hB0 : B ≤ (w.alloc (.cells #[.int .i64 10, .bool b, .int .i64 i, .float .f64 f, .string t, .slice Ab bs.length cb, .int .u64 r, .slice Al l.length cl, .slice Ad d.length cd, .string c, .int .i64 v] 29)).heap.size := by simp; omega
  have hrB := RK.refl B (w.alloc (.cells #[.int .i64 10, .bool b, .int .i64 i, .float .f64 f, .string t, .slice Ab bs.length cb, .int .u64 r, .slice Al l.length cl, .slice Ad d.length cd, .string c, .int .i64 v] 29))
  have hsB := hB0
  clear hrA hown hl hd hbs hbn hbl hll hdl
  have HBK : Hid (∀ (D : Nat) (x : Int) (W : World), x = (D : Int) → D ≤ 100 → Calls Tryz.prog 124 #[.bool true, .int .i64 x] W (XPost W.heap.size (brkT true D) W)) := Lib.hid (fun D x W h1 h2 => by rw [h1]; exact breaks_any true D h2 W)
  have HBL : Hid (∀ D : Nat, D ≤ 100 → (brkT true D).length ≤ 201 ∧ brkT true D ≠ []) := Lib.hid (fun D hD => by refine ⟨?_, by simp [brkT]⟩; show (10 :: List.replicate (2 * D) (32 : UInt8)).length ≤ 201; rw [List.length_cons, List.length_replicate]; omega)
  have HDC : Hid (∀ (x : Int) (W : World), x = v → Calls Tryz.prog 76 #[.int .u64 x] W (TextPost (Lib.itoa v) W)) := Lib.hid (fun x W h => by
    have h2 := dec_any v.toNat (by omega) W
    have h3 : Lib.itoa v = Lib.decDigits v.toNat := by unfold Lib.itoa; rw [if_neg (by omega)]
    rw [h, h3]; rwa [show ((v.toNat : Nat) : Int) = v by omega] at h2)
  have hlv := itoa_short (n := v) ⟨by omega, by omega⟩
  have kv : IntKind.u64.wrap v = v := by rw [IntKind.wrap_u64]; omega
  have hcs : c.data.toList.length = c.size := size_list c
  obtain ⟨CL, hCL⟩ : ∃ Q, Q = c.data.toList := ⟨_, rfl⟩
  rw [← hCL] at hcs
  have hcl : CL.length ≤ 32 := by omega
  have HCL := Lib.hid hCL
  have HCS := Lib.hid hcs
  generalize Lib.itoa v = IV at *
  have siv := tsize IV
  clear hCL hcs
  unfold termOf
  go_enter Tryz.func69, Tryz.ntmps69
  go_wp2_with (at_builtin; refine Lib.wpList_append_own_string _ rfl (.tmp 33) (.tmp 35) 23 9 rfl B 5 i0 Tryz.underlying23 Tryz.underlying9 hi0 hz0 hz1 hz2 _ L.length _ rfl hoB c rfl (by skip; unfold maxLen; omega) (by skip; omega) hsB ?_; intro v1 w1 hn1 hg1 _; refine Hid.out ?_)
  have ho1 := OwnB.to (m := L ++ CL) (OwnB.sapp hn1) (by rw [HCL.out])
  have hr1 := RK.app0 hrB hsB hoB hg1
  have hs1 := Nat.le_trans hB0 hr1.1.size
  obtain ⟨L1, hL1⟩ : ∃ Q, Q = L ++ CL := ⟨_, rfl⟩
  have hl1 : L1.length ≤ L.length + 32 := by rw [hL1, List.length_append]; omega
  rw [← hL1] at ho1
  have HL1 := Lib.hid hL1
  obtain ⟨A1, c1, hv1⟩ := ownsRow_form ho1
  subst hv1
  clear hn1 hg1 hL1 hoB
  refine Lib.hid ?_
  go_wp2_with (at_builtin; refine wpList_append_own _ rfl (.tmp 37) (.tmp 38) 23 rfl B 5 i0 _ 1 1 Tryz.underlying23 hi0 hz0 hz1 hz2 rfl (by omega) _ L1.length _ rfl (World.ownsRow.alloc ho1 _) ⟨w1.heap.size, 0, none⟩ 1 1 [_] rfl rfl (news_at rfl) (one_of1 rfl) (by unfold maxLen; omega) (by omega) (by simp; omega) ?_; intro v2 w2 hn2 hg2 _; refine Hid.out ?_)
  have ho2 := OwnB.app (m := [47]) rfl (by rfl) hn2
  have hr2 := RK.app1 hr1 hs1 ho1 hg2
  have hs2 := Nat.le_trans hB0 hr2.1.size
  obtain ⟨L2, hL2⟩ : ∃ Q, Q = L1 ++ [47] := ⟨_, rfl⟩
  have hl2 : L2.length ≤ L1.length + 1 := by rw [hL2, List.length_append]; exact Nat.le_refl _
  rw [← hL2] at ho2
  have HL2 := Lib.hid hL2
  obtain ⟨A2, c2, hv2⟩ := ownsRow_form ho2
  subst hv2
  clear hn2 hg2 hL2 ho1
  refine Lib.hid ?_
  have hbx := RK.block hr2 HB0.out (by intro c fz h; injection h with _ h _; exact absurd h (by decide))
  have d10 : w2.cell? ⟨w.heap.size, 10, none⟩ = some (.int .i64 v) := by rw [Lib.cell_of_heap hbx]; rfl
  clear hbx
  go_wp2_with fail
  clear d10
  refine (HDC.out _ _ ?hv).mono ?_
  case hv => first | rfl | exact kv
  rintro e wd ⟨rfl, hbd⟩
  have hox2 := OwnB.below ho2 hbd
  have hrx2 := RK.call hr2 hs2 hbd
  have hsx2 := Nat.le_trans hB0 hrx2.1.size
  clear ho2
  clear hbd
  go_wp2_with (at_builtin; refine Lib.wpList_append_own_string _ rfl (.tmp 40) (.tmp 44) 23 9 rfl B 5 i0 Tryz.underlying23 Tryz.underlying9 hi0 hz0 hz1 hz2 _ L2.length _ rfl hox2 ⟨IV.toArray⟩ rfl (by rw [siv]; unfold maxLen; omega) (by rw [siv]; omega) hsx2 ?_; intro v3 w3 hn3 hg3 _; refine Hid.out ?_)
  have ho3 := OwnB.tapp hn3
  have hr3 := RK.app0 hrx2 hsx2 hox2 hg3
  have hs3 := Nat.le_trans hB0 hr3.1.size
  obtain ⟨L3, hL3⟩ : ∃ Q, Q = L2 ++ IV := ⟨_, rfl⟩
  have hl3 : L3.length ≤ L2.length + 30 := by rw [hL3, List.length_append]; omega
  rw [← hL3] at ho3
  have HL3 := Lib.hid hL3
  obtain ⟨A3, c3, hv3⟩ := ownsRow_form ho3
  subst hv3
  clear hn3 hg3 hL3 hox2
  refine Lib.hid ?_
  have hbx := RK.block hr3 HB0.out (by intro c fz h; injection h with _ h _; exact absurd h (by decide))
  have d0 : w3.cell? ⟨w.heap.size, 0, none⟩ = some (.int .i64 10) := by rw [Lib.cell_of_heap hbx]; rfl
  have d8 : w3.cell? ⟨w.heap.size, 8, none⟩ = some (.slice Ad d.length cd) := by rw [Lib.cell_of_heap hbx]; rfl
  clear hbx
  go_wp2_with (at_builtin; refine wpList_append_own _ rfl (.tmp 55) (.tmp 57) 23 rfl B 5 i0 _ 1 1 Tryz.underlying23 hi0 hz0 hz1 hz2 rfl (by omega) _ L3.length _ rfl (World.ownsRow.alloc ho3 _) ⟨w3.heap.size, 0, none⟩ 1 1 [_] rfl rfl (news_at rfl) (one_of1 rfl) (by unfold maxLen; omega) (by omega) (by simp; omega) ?_; intro v4 w4 hn4 hg4 _; refine Hid.out ?_)
  have ho4 := OwnB.app (m := [123]) rfl (by rfl) hn4
  have hr4 := RK.app1 hr3 hs3 ho3 hg4
  have hs4 := Nat.le_trans hB0 hr4.1.size
  obtain ⟨L4, hL4⟩ : ∃ Q, Q = L3 ++ [123] := ⟨_, rfl⟩
  have hl4 : L4.length ≤ L3.length + 1 := by rw [hL4, List.length_append]; exact Nat.le_refl _
  rw [← hL4] at ho4
  have HL4 := Lib.hid hL4
  obtain ⟨A4, c4, hv4⟩ := ownsRow_form ho4
  subst hv4
  clear hn4 hg4 hL4 ho3
  refine Lib.hid ?_
  clear d0 d8
  go_wp2_with fail
  go_loopg [0, 12] d.length (fun g y j wr => ∃ k : Nat, j = .int .i64 k ∧ k + g = d.length ∧ OwnB wr B y (Lr ++ 123 :: ET k) ∧ RK B (w.alloc (.cells #[.int .i64 10, .bool b, .int .i64 i, .float .f64 f, .string t, .slice Ab bs.length cb, .int .u64 r, .slice Al l.length cl, .slice Ad d.length cd, .string c, .int .i64 v] 29)) wr)
  case atStart => exact ⟨0, rfl, by omega, ho4.to (by rw [HL4.out, HL3.out, HL2.out, HL1.out, HLR.out, HCL.out, HET0.out]; simp), hr4⟩
  case round =>
    obtain ⟨k, rfl, hkg, hown, hr0⟩ := hrel
    have hs0 := Nat.le_trans hB0 hr0.1.size
    cases gk with
    | zero =>
      obtain rfl : k = d.length := by omega
      have hlp : (Lr ++ 123 :: ET d.length).length + 1000 ≤ 137438953472 := HLE.out
      obtain ⟨Lp, hLp⟩ : ∃ Q, Q = Lr ++ 123 :: ET d.length := ⟨_, rfl⟩
      rw [← hLp] at hown hlp
      have HLP := Lib.hid hLp
      clear hLp HLE HLB HEA
      obtain ⟨A0, c0, rfl⟩ := ownsRow_form hown
      by_cases h0 : d.length = 0
      · have hq : ¬ (0 < (d.length : Int)) := by omega
        have HC : Hid (closeT true d.length dp = []) := Lib.hid (by unfold closeT; rw [h0]; simp)
        clear h0
        go_wp2_with (at_builtin; refine wpList_append_own _ rfl (.tmp 122) (.tmp 124) 23 rfl B 5 i0 _ 1 1 Tryz.underlying23 hi0 hz0 hz1 hz2 rfl (by omega) _ Lp.length _ rfl (World.ownsRow.alloc hown _) ⟨wr.heap.size, 0, none⟩ 1 1 [_] rfl rfl (news_at rfl) (one_of1 rfl) (by unfold maxLen; omega) (by omega) (by simp; omega) ?_; intro v1 w1 hn1 hg1 _; refine Hid.out ?_)
        have ho1 := OwnB.app (m := [125]) rfl (by rfl) hn1
        have hr1 := RK.app1 hr0 hs0 hown hg1
        have hs1 := Nat.le_trans hB0 hr1.1.size
        obtain ⟨L1, hL1⟩ : ∃ Q, Q = Lp ++ [125] := ⟨_, rfl⟩
        have hl1 : L1.length ≤ Lp.length + 1 := by rw [hL1, List.length_append]; exact Nat.le_refl _
        rw [← hL1] at ho1
        have HL1 := Lib.hid hL1
        obtain ⟨A1, c1, hv1⟩ := ownsRow_form ho1
        subst hv1
        clear hn1 hg1 hL1 hown
        refine Lib.hid ?_
        go_wp2_with fail
        go_ret
        exact ⟨_, rfl, OwnB.to ho1 (by rw [HT.out, HC.out, ← HLP.out, HL1.out]; simp), HRA.out.trans hr1⟩
      · have hq : 0 < (d.length : Int) := by omega
        have HC : Hid (closeT true d.length dp = brkT true dp) := Lib.hid (by unfold closeT brkT; rw [if_pos ⟨rfl, by omega⟩]; rfl)
        clear h0
        have hbl := HBL.out dp (by omega)
        go_wp2_with fail
        refine (HBK.out dp _ _ rfl (by omega)).mono ?_
        rintro e wb ⟨vb, rfl, hob, hbb⟩
        generalize brkT true dp = M at *
        obtain ⟨gb, cb2, rfl, hcb⟩ := OwnB.src hob hbl.2
        have hml := hbl.1
        clear hob hbl HBL
        have hox0 := OwnB.below hown hbb
        have hrx0 := RK.call hr0 hs0 hbb
        have hsx0 := Nat.le_trans hB0 hrx0.1.size
        clear hown
        clear hbb
        go_wp2_with (at_builtin; refine wpList_append_own _ rfl (.tmp 117) (.tmp 120) 23 rfl B 5 i0 _ 1 1 Tryz.underlying23 hi0 hz0 hz1 hz2 rfl (by omega) _ Lp.length _ rfl hox0 ⟨gb, 0, none⟩ M.length cb2 (Lib.byteCells M) rfl (by simp [Lib.byteCells]) hcb (byte_ones _) (by unfold maxLen; omega) (by omega) hsx0 ?_; intro v1 w1 hn1 hg1 _; refine Hid.out ?_)
        have ho1 := OwnB.app (m := M) rfl rfl hn1
        have hr1 := RK.app0 hrx0 hsx0 hox0 hg1
        have hs1 := Nat.le_trans hB0 hr1.1.size
        obtain ⟨L1, hL1⟩ : ∃ Q, Q = Lp ++ M := ⟨_, rfl⟩
        have hl1 : L1.length ≤ Lp.length + M.length := by rw [hL1, List.length_append]; exact Nat.le_refl _
        rw [← hL1] at ho1
        have HL1 := Lib.hid hL1
        obtain ⟨A1, c1, hv1⟩ := ownsRow_form ho1
        subst hv1
        clear hn1 hg1 hL1 hox0
        refine Lib.hid ?_
        go_wp2_with (at_builtin; refine wpList_append_own _ rfl (.tmp 122) (.tmp 124) 23 rfl B 5 i0 _ 1 1 Tryz.underlying23 hi0 hz0 hz1 hz2 rfl (by omega) _ L1.length _ rfl (World.ownsRow.alloc ho1 _) ⟨w1.heap.size, 0, none⟩ 1 1 [_] rfl rfl (news_at rfl) (one_of1 rfl) (by unfold maxLen; omega) (by omega) (by simp; omega) ?_; intro v2 w2 hn2 hg2 _; refine Hid.out ?_)
        have ho2 := OwnB.app (m := [125]) rfl (by rfl) hn2
        have hr2 := RK.app1 hr1 hs1 ho1 hg2
        have hs2 := Nat.le_trans hB0 hr2.1.size
        obtain ⟨L2, hL2⟩ : ∃ Q, Q = L1 ++ [125] := ⟨_, rfl⟩
        have hl2 : L2.length ≤ L1.length + 1 := by rw [hL2, List.length_append]; exact Nat.le_refl _
        rw [← hL2] at ho2
        have HL2 := Lib.hid hL2
        obtain ⟨A2, c2, hv2⟩ := ownsRow_form ho2
        subst hv2
        clear hn2 hg2 hL2 ho1
        refine Lib.hid ?_
        go_wp2_with fail
        go_ret
        exact ⟨_, rfl, OwnB.to ho2 (by rw [HT.out, HC.out, ← HLP.out, HL2.out, HL1.out]; simp), HRA.out.trans hr2⟩
    | succ g =>
      obtain ⟨p, hp⟩ : ∃ p, d[k]? = some p := ⟨_, List.getElem?_eq_getElem (by omega)⟩
      obtain ⟨hlp, hfp, hnm⟩ := HLB.out k p hp
      have HE := Lib.hid (HEA.out k p hp)
      obtain ⟨Lp, hLp⟩ : ∃ Q, Q = Lr ++ 123 :: ET k := ⟨_, rfl⟩
      rw [← hLp] at hown hlp
      rw [← hLp] at HE
      clear hLp HLB HEA HLE HT
      obtain ⟨A0, c0, rfl⟩ := ownsRow_form hown
      obtain ⟨bl, off, rfl, hbB, hrt⟩ := EntsAt.at_ HTL.out (k := k) (by omega)
      obtain ⟨en, -, vs, e1, hvs⟩ := RdTD.iff.1 hrt k p hp
      obtain ⟨NM, p⟩ := p
      simp only at en hvs hlp hfp hnm HE
      have HVS := Lib.hid hvs
      have HE1 := Lib.hid e1
      have HEN := Lib.hid en
      have HCP := Lib.hid (fun (D : Nat) (x : Int) (u : Value) (Q : List UInt8) (W : World) (hx : x = (D : Int)) (h1 : RdT W B p vs) (h2 : B ≤ W.heap.size) (h3 : OwnB W B u Q) (h4 : Fit (builtV p) D) (h5 : Q.length + 1048576 * cntV (builtV p) ≤ 137438953472) => (by rw [hx]; exact ih (NM, p) (List.mem_of_getElem? hp) vs u Q B W D h1 h2 h3 h4 h5 : Calls Tryz.prog 69 #[u, termOf vs, .bool true, .int .i64 x] W (XKPost B (Q ++ putV true (builtV p) D) W)))
      obtain ⟨n0, n1, n2, n3, n4, n5, n6, n7, n8, n9, n10, rfl, h1c⟩ := hvs.eleven
      have hlt : k < d.length := by omega
      have hlt2 : (k : Int) < (d.length : Int) := by omega
      generalize cntV (builtV p) = NP at *
      have hns : NM.data.toList.length = NM.size := size_list NM
      obtain ⟨NL, hNL⟩ : ∃ Q, Q = NM.data.toList := ⟨_, rfl⟩
      rw [← hNL] at hns HE
      have hnl : NL.length ≤ 32 := by omega
      have HNL := Lib.hid hNL
      clear hp hrt hvs e1 ih HTL h1c en hNL hns
      by_cases hk0 : k = 0
      · subst hk0
        have hbl := HBL.out (dp + 1) (by omega)
        go_wp2_with fail
        refine (HBK.out (dp + 1) _ _ ?hy (by omega)).mono ?_
        case hy => simp
        rintro e wb ⟨vb, rfl, hob, hbb⟩
        have HSE : Hid (sepT true 0 dp = [] ++ brkT true (dp + 1)) := Lib.hid (by unfold sepT brkT; rw [if_pos rfl, if_neg (by omega)]; rfl)
        generalize brkT true (dp + 1) = M at *
        obtain ⟨gb, cb2, rfl, hcb⟩ := OwnB.src hob hbl.2
        have hml := hbl.1
        clear hob hbl HBL
        have hox0 := OwnB.below hown hbb
        have hrx0 := RK.call hr0 hs0 hbb
        have hsx0 := Nat.le_trans hB0 hrx0.1.size
        clear hown
        clear hbb
        go_wp2_with (at_builtin; refine wpList_append_own _ rfl (.tmp 74) (.tmp 78) 23 rfl B 5 i0 _ 1 1 Tryz.underlying23 hi0 hz0 hz1 hz2 rfl (by omega) _ Lp.length _ rfl hox0 ⟨gb, 0, none⟩ M.length cb2 (Lib.byteCells M) rfl (by simp [Lib.byteCells]) hcb (byte_ones _) (by unfold maxLen; omega) (by omega) hsx0 ?_; intro v1 w1 hn1 hg1 _; refine Hid.out ?_)
        have ho1 := OwnB.app (m := M) rfl rfl hn1
        have hr1 := RK.app0 hrx0 hsx0 hox0 hg1
        have hs1 := Nat.le_trans hB0 hr1.1.size
        obtain ⟨L1, hL1⟩ : ∃ Q, Q = Lp ++ M := ⟨_, rfl⟩
        have hl1 : L1.length ≤ Lp.length + M.length := by rw [hL1, List.length_append]; exact Nat.le_refl _
        rw [← hL1] at ho1
        have HL1 := Lib.hid hL1
        obtain ⟨A1, c1, hv1⟩ := ownsRow_form ho1
        subst hv1
        clear hn1 hg1 hL1 hox0
        refine Lib.hid ?_
        have hbx := RK.block hr1 HB0.out (by intro c fz h; injection h with _ h _; exact absurd h (by decide))
        have d0 : w1.cell? ⟨w.heap.size, 0, none⟩ = some (.int .i64 10) := by rw [Lib.cell_of_heap hbx]; rfl
        have d8 : w1.cell? ⟨w.heap.size, 8, none⟩ = some (.slice (some ⟨bl, off, none⟩) d.length cd) := by rw [Lib.cell_of_heap hbx]; rfl
        have hbel : Below B w w1 := (HRA.out.trans hr1).1
        have en := (hbel.cell (p := ⟨bl, off + 0 * 12, none⟩) hbB).trans HEN.out
        simp only [Nat.zero_mul, Nat.add_zero] at en
        clear hbx hbel
        go_wp2_with (at_builtin; refine Lib.wpList_append_own_string _ rfl (.tmp 93) (.tmp 99) 23 9 rfl B 5 i0 Tryz.underlying23 Tryz.underlying9 hi0 hz0 hz1 hz2 _ L1.length _ rfl ho1 NM rfl (by skip; unfold maxLen; omega) (by skip; omega) hs1 ?_; intro v2 w2 hn2 hg2 _; refine Hid.out ?_)
        have ho2 := OwnB.to (m := L1 ++ NL) (OwnB.sapp hn2) (by rw [HNL.out])
        have hr2 := RK.app0 hr1 hs1 ho1 hg2
        have hs2 := Nat.le_trans hB0 hr2.1.size
        obtain ⟨L2, hL2⟩ : ∃ Q, Q = L1 ++ NL := ⟨_, rfl⟩
        have hl2 : L2.length ≤ L1.length + 32 := by rw [hL2, List.length_append]; omega
        rw [← hL2] at ho2
        have HL2 := Lib.hid hL2
        obtain ⟨A2, c2, hv2⟩ := ownsRow_form ho2
        subst hv2
        clear hn2 hg2 hL2 ho1
        refine Lib.hid ?_
        clear d0 d8 en
        go_wp2_with (at_builtin; refine wpList_append_own _ rfl (.tmp 101) (.tmp 102) 23 rfl B 5 i0 _ 1 1 Tryz.underlying23 hi0 hz0 hz1 hz2 rfl (by omega) _ L2.length _ rfl (World.ownsRow.alloc ho2 _) ⟨w2.heap.size, 0, none⟩ 2 2 [_, _] rfl rfl (news_at rfl) (one_of2 rfl rfl) (by unfold maxLen; omega) (by omega) (by simp; omega) ?_; intro v3 w3 hn3 hg3 _; refine Hid.out ?_)
        have ho3 := OwnB.app (m := [58, 32]) rfl (by rfl) hn3
        have hr3 := RK.app1 hr2 hs2 ho2 hg3
        have hs3 := Nat.le_trans hB0 hr3.1.size
        obtain ⟨L3, hL3⟩ : ∃ Q, Q = L2 ++ [58, 32] := ⟨_, rfl⟩
        have hl3 : L3.length ≤ L2.length + 2 := by rw [hL3, List.length_append]; exact Nat.le_refl _
        rw [← hL3] at ho3
        have HL3 := Lib.hid hL3
        obtain ⟨A3, c3, hv3⟩ := ownsRow_form ho3
        subst hv3
        clear hn3 hg3 hL3 ho2
        refine Lib.hid ?_
        have hbx := RK.block hr3 HB0.out (by intro c fz h; injection h with _ h _; exact absurd h (by decide))
        have d0 : w3.cell? ⟨w.heap.size, 0, none⟩ = some (.int .i64 10) := by rw [Lib.cell_of_heap hbx]; rfl
        have d8 : w3.cell? ⟨w.heap.size, 8, none⟩ = some (.slice (some ⟨bl, off, none⟩) d.length cd) := by rw [Lib.cell_of_heap hbx]; rfl
        have hbel : Below B w w3 := (HRA.out.trans hr3).1
        have e1' := HE1.out.keep (fun q hq => hbel.cell (by rw [hq]; exact hbB))
        have hvs2 := Lib.hid (RdT.below HVS.out hbel)
        simp only [Nat.zero_mul, Nat.add_zero] at e1'
        have q0 := e1' 0 _ rfl
        have q1 := e1' 1 _ rfl
        have q2 := e1' 2 _ rfl
        have q3 := e1' 3 _ rfl
        have q4 := e1' 4 _ rfl
        have q5 := e1' 5 _ rfl
        have q6 := e1' 6 _ rfl
        have q7 := e1' 7 _ rfl
        have q8 := e1' 8 _ rfl
        have q9 := e1' 9 _ rfl
        have q10 := e1' 10 _ rfl
        simp only [Nat.add_zero] at q0
        clear e1' hbx hbel HE1
        go_wp2_with fail
        refine (HCP.out (dp + 1) _ _ _ _ ?hx hvs2.out hs3 ho3 hfp (by omega)).mono ?_
        case hx => simp
        rintro e wz ⟨vz, rfl, hoz, hrz⟩
        have HOZ : Hid (OwnB wz B vz (Lr ++ 123 :: ET (0 + 1))) := Lib.hid (OwnB.to hoz (by rw [HE.out, HSE.out, HL3.out, HL2.out, HL1.out]; simp))
        have HRZ := Lib.hid (hr3.trans hrz)
        obtain ⟨Az, cz, hvz⟩ := ownsRow_form hoz
        subst hvz
        generalize (L3 ++ putV true (builtV p) (dp + 1)) = Lz at *
        clear hoz hrz
        go_wp2_with fail
        go_roundg g
        case rel => exact ⟨0 + 1, by first | go_num | simp, by omega, HOZ.out, HRZ.out⟩
        case measure => omega
      · have hq : 0 < (k : Int) := by omega
        go_wp2_with (at_builtin; refine wpList_append_own _ rfl (.tmp 66) (.tmp 67) 23 rfl B 5 i0 _ 1 1 Tryz.underlying23 hi0 hz0 hz1 hz2 rfl (by omega) _ Lp.length _ rfl (World.ownsRow.alloc hown _) ⟨wr.heap.size, 0, none⟩ 1 1 [_] rfl rfl (news_at rfl) (one_of1 rfl) (by unfold maxLen; omega) (by omega) (by simp; omega) ?_; intro v1 w1 hn1 hg1 _; refine Hid.out ?_)
        have ho1 := OwnB.app (m := [44]) rfl (by rfl) hn1
        have hr1 := RK.app1 hr0 hs0 hown hg1
        have hs1 := Nat.le_trans hB0 hr1.1.size
        obtain ⟨L1, hL1⟩ : ∃ Q, Q = Lp ++ [44] := ⟨_, rfl⟩
        have hl1 : L1.length ≤ Lp.length + 1 := by rw [hL1, List.length_append]; exact Nat.le_refl _
        rw [← hL1] at ho1
        have HL1 := Lib.hid hL1
        obtain ⟨A1, c1, hv1⟩ := ownsRow_form ho1
        subst hv1
        clear hn1 hg1 hL1 hown
        refine Lib.hid ?_
        have hbl := HBL.out (dp + 1) (by omega)
        go_wp2_with fail
        refine (HBK.out (dp + 1) _ _ ?hy (by omega)).mono ?_
        case hy => simp
        rintro e wb ⟨vb, rfl, hob, hbb⟩
        have HSE : Hid (sepT true k dp = [44] ++ brkT true (dp + 1)) := Lib.hid (by unfold sepT brkT; rw [if_pos rfl, if_pos (by omega)]; rfl)
        generalize brkT true (dp + 1) = M at *
        obtain ⟨gb, cb2, rfl, hcb⟩ := OwnB.src hob hbl.2
        have hml := hbl.1
        clear hob hbl HBL
        have hox1 := OwnB.below ho1 hbb
        have hrx1 := RK.call hr1 hs1 hbb
        have hsx1 := Nat.le_trans hB0 hrx1.1.size
        clear ho1
        clear hbb
        go_wp2_with (at_builtin; refine wpList_append_own _ rfl (.tmp 74) (.tmp 78) 23 rfl B 5 i0 _ 1 1 Tryz.underlying23 hi0 hz0 hz1 hz2 rfl (by omega) _ L1.length _ rfl hox1 ⟨gb, 0, none⟩ M.length cb2 (Lib.byteCells M) rfl (by simp [Lib.byteCells]) hcb (byte_ones _) (by unfold maxLen; omega) (by omega) hsx1 ?_; intro v2 w2 hn2 hg2 _; refine Hid.out ?_)
        have ho2 := OwnB.app (m := M) rfl rfl hn2
        have hr2 := RK.app0 hrx1 hsx1 hox1 hg2
        have hs2 := Nat.le_trans hB0 hr2.1.size
        obtain ⟨L2, hL2⟩ : ∃ Q, Q = L1 ++ M := ⟨_, rfl⟩
        have hl2 : L2.length ≤ L1.length + M.length := by rw [hL2, List.length_append]; exact Nat.le_refl _
        rw [← hL2] at ho2
        have HL2 := Lib.hid hL2
        obtain ⟨A2, c2, hv2⟩ := ownsRow_form ho2
        subst hv2
        clear hn2 hg2 hL2 hox1
        refine Lib.hid ?_
        have hbx := RK.block hr2 HB0.out (by intro c fz h; injection h with _ h _; exact absurd h (by decide))
        have d0 : w2.cell? ⟨w.heap.size, 0, none⟩ = some (.int .i64 10) := by rw [Lib.cell_of_heap hbx]; rfl
        have d8 : w2.cell? ⟨w.heap.size, 8, none⟩ = some (.slice (some ⟨bl, off, none⟩) d.length cd) := by rw [Lib.cell_of_heap hbx]; rfl
        have hbel : Below B w w2 := (HRA.out.trans hr2).1
        have en := (hbel.cell (p := ⟨bl, off + k * 12, none⟩) hbB).trans HEN.out
        clear hbx hbel
        go_wp2_with (at_builtin; refine Lib.wpList_append_own_string _ rfl (.tmp 93) (.tmp 99) 23 9 rfl B 5 i0 Tryz.underlying23 Tryz.underlying9 hi0 hz0 hz1 hz2 _ L2.length _ rfl ho2 NM rfl (by skip; unfold maxLen; omega) (by skip; omega) hs2 ?_; intro v3 w3 hn3 hg3 _; refine Hid.out ?_)
        have ho3 := OwnB.to (m := L2 ++ NL) (OwnB.sapp hn3) (by rw [HNL.out])
        have hr3 := RK.app0 hr2 hs2 ho2 hg3
        have hs3 := Nat.le_trans hB0 hr3.1.size
        obtain ⟨L3, hL3⟩ : ∃ Q, Q = L2 ++ NL := ⟨_, rfl⟩
        have hl3 : L3.length ≤ L2.length + 32 := by rw [hL3, List.length_append]; omega
        rw [← hL3] at ho3
        have HL3 := Lib.hid hL3
        obtain ⟨A3, c3, hv3⟩ := ownsRow_form ho3
        subst hv3
        clear hn3 hg3 hL3 ho2
        refine Lib.hid ?_
        clear d0 d8 en
        go_wp2_with (at_builtin; refine wpList_append_own _ rfl (.tmp 101) (.tmp 102) 23 rfl B 5 i0 _ 1 1 Tryz.underlying23 hi0 hz0 hz1 hz2 rfl (by omega) _ L3.length _ rfl (World.ownsRow.alloc ho3 _) ⟨w3.heap.size, 0, none⟩ 2 2 [_, _] rfl rfl (news_at rfl) (one_of2 rfl rfl) (by unfold maxLen; omega) (by omega) (by simp; omega) ?_; intro v4 w4 hn4 hg4 _; refine Hid.out ?_)
        have ho4 := OwnB.app (m := [58, 32]) rfl (by rfl) hn4
        have hr4 := RK.app1 hr3 hs3 ho3 hg4
        have hs4 := Nat.le_trans hB0 hr4.1.size
        obtain ⟨L4, hL4⟩ : ∃ Q, Q = L3 ++ [58, 32] := ⟨_, rfl⟩
        have hl4 : L4.length ≤ L3.length + 2 := by rw [hL4, List.length_append]; exact Nat.le_refl _
        rw [← hL4] at ho4
        have HL4 := Lib.hid hL4
        obtain ⟨A4, c4, hv4⟩ := ownsRow_form ho4
        subst hv4
        clear hn4 hg4 hL4 ho3
        refine Lib.hid ?_
        have hbx := RK.block hr4 HB0.out (by intro c fz h; injection h with _ h _; exact absurd h (by decide))
        have d0 : w4.cell? ⟨w.heap.size, 0, none⟩ = some (.int .i64 10) := by rw [Lib.cell_of_heap hbx]; rfl
        have d8 : w4.cell? ⟨w.heap.size, 8, none⟩ = some (.slice (some ⟨bl, off, none⟩) d.length cd) := by rw [Lib.cell_of_heap hbx]; rfl
        have hbel : Below B w w4 := (HRA.out.trans hr4).1
        have e1' := HE1.out.keep (fun q hq => hbel.cell (by rw [hq]; exact hbB))
        have hvs2 := Lib.hid (RdT.below HVS.out hbel)
        have q0 := e1' 0 _ rfl
        have q1 := e1' 1 _ rfl
        have q2 := e1' 2 _ rfl
        have q3 := e1' 3 _ rfl
        have q4 := e1' 4 _ rfl
        have q5 := e1' 5 _ rfl
        have q6 := e1' 6 _ rfl
        have q7 := e1' 7 _ rfl
        have q8 := e1' 8 _ rfl
        have q9 := e1' 9 _ rfl
        have q10 := e1' 10 _ rfl
        simp only [Nat.add_zero] at q0
        clear e1' hbx hbel HE1
        go_wp2_with fail
        refine (HCP.out (dp + 1) _ _ _ _ ?hx hvs2.out hs4 ho4 hfp (by omega)).mono ?_
        case hx => simp
        rintro e wz ⟨vz, rfl, hoz, hrz⟩
        have HOZ : Hid (OwnB wz B vz (Lr ++ 123 :: ET (k + 1))) := Lib.hid (OwnB.to hoz (by rw [HE.out, HSE.out, HL4.out, HL3.out, HL2.out, HL1.out]; simp))
        have HRZ := Lib.hid (hr4.trans hrz)
        obtain ⟨Az, cz, hvz⟩ := ownsRow_form hoz
        subst hvz
        generalize (L4 ++ putV true (builtV p) (dp + 1)) = Lz at *
        clear hoz hrz
        go_wp2_with fail
        go_roundg g
        case rel => exact ⟨k + 1, by first | go_num | simp, by omega, HOZ.out, HRZ.out⟩
        case measure => omega
theorem rput_any (ln : Bool) (T : Tm) : RPutC ln T := by
  induction T using Tm.ind with
  | h k b i f t bs r l d c v hl hd =>
    by_cases k8 : k = 8
    · subst k8; cases ln
      · exact rput_8_false b i f t bs r l d c v hl
      · exact rput_8_true b i f t bs r l d c v hl
    by_cases k9 : k = 9
    · subst k9; cases ln
      · exact rput_9_false b i f t bs r l d c v hd
      · exact rput_9_true b i f t bs r l d c v hd
    by_cases k10 : k = 10
    · subst k10; cases ln
      · exact rput_10_false b i f t bs r l d c v hd
      · exact rput_10_true b i f t bs r l d c v hd
    have a1 : ∀ m, builtV (.mk k b i f t bs r l d c v) ≠ .list m := by
      intro m h; unfold builtV at h; rw [if_neg k8, if_neg k9, if_neg k10] at h
      (repeat' split at h) <;> cases h
    have a2 : ∀ m, builtV (.mk k b i f t bs r l d c v) ≠ .dict m := by
      intro m h; unfold builtV at h; rw [if_neg k8, if_neg k9, if_neg k10] at h
      (repeat' split at h) <;> cases h
    have a3 : ∀ e1 e2 m, builtV (.mk k b i f t bs r l d c v) ≠ .record e1 e2 m := by
      intro e1 e2 m h; unfold builtV at h; rw [if_neg k8, if_neg k9, if_neg k10] at h
      (repeat' split at h) <;> cases h
    exact rput_leaf ln _ a1 a2 a3 k8 k9 k10
end Go.Proofs.YtobpkelblpdajaaGreatDoor
