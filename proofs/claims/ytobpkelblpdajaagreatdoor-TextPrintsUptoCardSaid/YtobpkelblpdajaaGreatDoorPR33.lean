/- Walk: the document's put of a list. -/
import Derived.Test.YtobpkelblpdajaaGreatDoorPR32
set_option linter.unusedVariables false
set_option linter.unusedSimpArgs false
set_option linter.unusedSectionVars false
namespace Go.Proofs.YtobpkelblpdajaaGreatDoor
open Go Go.RowKit
set_option maxRecDepth 100000 in
set_option maxHeartbeats 4000000 in
theorem rput_8_false (b : Bool) (i : Int) (f : Nat) (t : ByteArray) (bs : List UInt8) (r : Int) (l : List Tm) (d : List (ByteArray × Tm)) (c : ByteArray) (v : Int) (ih : ∀ x ∈ l, RPutC false x) : RPutC false (.mk 8 b i f t bs r l d c v) := by
  rintro x u L B w dp ⟨Ab, cb, Al, cl, Ad, cd, rfl, hk, hi, ht, hbl, ⟨hbn, hbs⟩, hr0, hr1, hc, hv, ⟨hll, hl⟩, ⟨hdl, hd⟩⟩ hBw hown hfit hlen
  obtain ⟨i0, hi0, hz0, hz1, hz2⟩ := info_parts Tryz.infoByte
  have hBV : builtV (.mk 8 b i f t bs r l d c v) = .list (builtL l) := by simp [builtV]
  rw [hBV] at hfit hlen ⊢
  obtain ⟨hd64, hl4, hfl⟩ := hfit
  have hbl2 : (builtL l).length = l.length := by rw [builtL_eq]; simp
  rw [hbl2] at hl4
  have hcv : cntV (.list (builtL l)) = cntL (builtL l) + 1 := rfl
  rw [hcv] at hlen
  have hee := fun (k : Nat) (hk : k ≤ l.length) => eachL_len false (builtL l) dp hd64 hfl k (by omega)
  have hct := fun (k : Nat) (x : V) (hx : (builtL l)[k]? = some x) => cntL_take (builtL l) k x hx
  have HT : Hid (L ++ putV false (.list (builtL l)) dp = (L ++ 91 :: eachT false (bfL false (builtL l) dp) dp l.length) ++ (closeT false l.length dp ++ [93])) := Lib.hid (by
    have := putL_each false (builtL l) dp l.length (by omega)
    rw [List.drop_of_length_le (by omega), putL, List.append_nil] at this
    rw [putV, this, hbl2]; simp)
  have HEA : Hid (∀ (k : Nat) (p : Tm), l[k]? = some p → L ++ 91 :: eachT false (bfL false (builtL l) dp) dp (k + 1) = (L ++ 91 :: eachT false (bfL false (builtL l) dp) dp k) ++ (sepT false k dp ++ putV false (builtV p) (dp + 1))) := Lib.hid (fun k p hp => by
    rw [eachT]; unfold bfL; rw [show elV (builtL l) k = builtV p by simp [elV, builtL_eq, hp]]; simp)
  have HLB : Hid (∀ (k : Nat) (p : Tm), l[k]? = some p → (L ++ 91 :: eachT false (bfL false (builtL l) dp) dp k).length + 1000 + 1048576 * cntV (builtV p) ≤ 137438953472 ∧ Fit (builtV p) (dp + 1)) := Lib.hid (fun k p hp => by
    have hk := (List.getElem?_eq_some_iff.1 hp).1
    have h1 := hee k (by omega)
    have h2 := hct k (builtV p) (by simp [builtL_eq, hp])
    refine ⟨?_, hfl.at_ _ (by rw [builtL_eq]; exact List.mem_map_of_mem (List.mem_of_getElem? hp))⟩
    rw [List.length_append, List.length_cons]; omega)
  have HLE : Hid ((L ++ 91 :: eachT false (bfL false (builtL l) dp) dp l.length).length + 1000 ≤ 137438953472) := Lib.hid (by
    have h1 := hee l.length (by omega)
    rw [List.take_of_length_le (by omega)] at h1
    rw [List.length_append, List.length_cons]; omega)
  have hn9 : L.length + 10 ≤ 137438953472 := by omega
  clear hee hct hfl hlen hBV hbl2 hcv
  have HET0 : Hid (eachT false (bfL false (builtL l) dp) dp 0 = []) := Lib.hid rfl
  generalize eachT false (bfL false (builtL l) dp) dp = ET at *
  have HTL : Hid (TermsAt w B Al l) := Lib.hid hl
  obtain ⟨A0, c0, rfl⟩ := ownsRow_form hown
  have hrA := RK.alloc (RK.refl B w) hBw (.cells #[.int .i64 8, .bool b, .int .i64 i, .float .f64 f, .string t, .slice Ab bs.length cb, .int .u64 r, .slice Al l.length cl, .slice Ad d.length cd, .string c, .int .i64 v] 29)
  have HRA := Lib.hid hrA
  have HB0 : Hid ((w.alloc (.cells #[.int .i64 8, .bool b, .int .i64 i, .float .f64 f, .string t, .slice Ab bs.length cb, .int .u64 r, .slice Al l.length cl, .slice Ad d.length cd, .string c, .int .i64 v] 29)).heap[w.heap.size]? = some (.cells #[.int .i64 8, .bool b, .int .i64 i, .float .f64 f, .string t, .slice Ab bs.length cb, .int .u64 r, .slice Al l.length cl, .slice Ad d.length cd, .string c, .int .i64 v] 29 (0, 0))) := Lib.hid (heap_alloc_new _ _)
  have hoB := OwnB.below hown ((Below.refl w.heap.size w).alloc (Nat.le_refl _) (.cells #[.int .i64 8, .bool b, .int .i64 i, .float .f64 f, .string t, .slice Ab bs.length cb, .int .u64 r, .slice Al l.length cl, .slice Ad d.length cd, .string c, .int .i64 v] 29))
  have hB0 : B ≤ (w.alloc (.cells #[.int .i64 8, .bool b, .int .i64 i, .float .f64 f, .string t, .slice Ab bs.length cb, .int .u64 r, .slice Al l.length cl, .slice Ad d.length cd, .string c, .int .i64 v] 29)).heap.size := by simp; omega
  have hrB := RK.refl B (w.alloc (.cells #[.int .i64 8, .bool b, .int .i64 i, .float .f64 f, .string t, .slice Ab bs.length cb, .int .u64 r, .slice Al l.length cl, .slice Ad d.length cd, .string c, .int .i64 v] 29))
  have hsB := hB0
  clear hrA hown hl hd hbs hbn hbl hll hdl
  have HBK : Hid (∀ (x : Nat) (y : Int) (W : World), y = (x : Int) → Calls Tryz.prog 124 #[.bool false, .int .i64 y] W (fun e w' => e = .returned (.slice none 0 0) ∧ W = w')) := Lib.hid (fun x y W h => by rw [h]; exact breaks_no x W)
  unfold termOf
  go_enter Tryz.func69, Tryz.ntmps69
  go_wp2_with (at_builtin; refine wpList_append_own _ rfl (.tmp 55) (.tmp 57) 23 rfl B 5 i0 _ 1 1 Tryz.underlying23 hi0 hz0 hz1 hz2 rfl (by omega) _ L.length _ rfl (World.ownsRow.alloc hoB _) ⟨w.heap.size + 1, 0, none⟩ 1 1 [_] rfl rfl (news_at (by simp)) (one_of1 rfl) (by unfold maxLen; omega) (by omega) (by simp; omega) ?_; intro v1 w1 hn1 hg1 _; refine Hid.out ?_)
  have ho1 := OwnB.app (m := [91]) rfl (by rfl) hn1
  have hr1 := RK.app1 hrB hsB hoB hg1
  have hs1 := Nat.le_trans hB0 hr1.1.size
  obtain ⟨L1, hL1⟩ : ∃ Q, Q = L ++ [91] := ⟨_, rfl⟩
  have hl1 : L1.length ≤ L.length + 1 := by rw [hL1, List.length_append]; exact Nat.le_refl _
  rw [← hL1] at ho1
  have HL1 := Lib.hid hL1
  obtain ⟨A1, c1, hv1⟩ := ownsRow_form ho1
  subst hv1
  clear hn1 hg1 hL1 hoB
  refine Lib.hid ?_
  go_wp2_with fail
  go_loopg [0, 12] l.length (fun g y j wr => ∃ k : Nat, j = .int .i64 k ∧ k + g = l.length ∧ OwnB wr B y (L ++ 91 :: ET k) ∧ RK B (w.alloc (.cells #[.int .i64 8, .bool b, .int .i64 i, .float .f64 f, .string t, .slice Ab bs.length cb, .int .u64 r, .slice Al l.length cl, .slice Ad d.length cd, .string c, .int .i64 v] 29)) wr)
  case atStart => exact ⟨0, rfl, by omega, ho1.to (by rw [HL1.out, HET0.out]), hr1⟩
  case round =>
    obtain ⟨k, rfl, hkg, hown, hr0⟩ := hrel
    have hs0 := Nat.le_trans hB0 hr0.1.size
    cases gk with
    | zero =>
      obtain rfl : k = l.length := by omega
      have hlp : (L ++ 91 :: ET l.length).length + 1000 ≤ 137438953472 := HLE.out
      obtain ⟨Lp, hLp⟩ : ∃ Q, Q = L ++ 91 :: ET l.length := ⟨_, rfl⟩
      rw [← hLp] at hown hlp
      have HLP := Lib.hid hLp
      clear hLp HLE HLB HEA
      obtain ⟨A0, c0, rfl⟩ := ownsRow_form hown
      by_cases h0 : l.length = 0
      · have hq : ¬ (0 < (l.length : Int)) := by omega
        have HC : Hid (closeT false l.length dp = []) := Lib.hid (by unfold closeT; rw [h0]; simp)
        clear h0
        go_wp2_with (at_builtin; refine wpList_append_own _ rfl (.tmp 122) (.tmp 124) 23 rfl B 5 i0 _ 1 1 Tryz.underlying23 hi0 hz0 hz1 hz2 rfl (by omega) _ Lp.length _ rfl (World.ownsRow.alloc hown _) ⟨wr.heap.size, 0, none⟩ 1 1 [_] rfl rfl (news_at rfl) (one_of1 rfl) (by unfold maxLen; omega) (by omega) (by simp; omega) ?_; intro v1 w1 hn1 hg1 _; refine Hid.out ?_)
        have ho1 := OwnB.app (m := [93]) rfl (by rfl) hn1
        have hr1 := RK.app1 hr0 hs0 hown hg1
        have hs1 := Nat.le_trans hB0 hr1.1.size
        obtain ⟨L1, hL1⟩ : ∃ Q, Q = Lp ++ [93] := ⟨_, rfl⟩
        have hl1 : L1.length ≤ Lp.length + 1 := by rw [hL1, List.length_append]; exact Nat.le_refl _
        rw [← hL1] at ho1
        have HL1 := Lib.hid hL1
        obtain ⟨A1, c1, hv1⟩ := ownsRow_form ho1
        subst hv1
        clear hn1 hg1 hL1 hown
        refine Lib.hid ?_
        go_wp2_with fail
        go_ret
        exact ⟨_, rfl, OwnB.to ho1 (by rw [HT.out, HC.out, ← HLP.out, HL1.out]; simp), HRA.out.trans hr1⟩
      · have hq : 0 < (l.length : Int) := by omega
        have HC : Hid (closeT false l.length dp = []) := Lib.hid (by unfold closeT; simp)
        clear h0
        go_wp2_with fail
        refine (HBK.out dp _ _ rfl).mono ?_
        rintro e wb ⟨rfl, rfl⟩
        have kap := fun (ty : TypeId) => run_append_of_nil (P := Tryz.prog) wr B 23 ty 5 i0 1 Tryz.underlying23 hi0 _ _ _ hown 0
        go_wp2_with (at_builtin; refine Lib.wpList_append_run _ rfl (.tmp 117) (.tmp 120) _ _ rfl _ _ rfl rfl _ _ (kap _) ?_; refine Hid.out ?_)
        clear kap
        refine Lib.hid ?_

        go_wp2_with (at_builtin; refine wpList_append_own _ rfl (.tmp 122) (.tmp 124) 23 rfl B 5 i0 _ 1 1 Tryz.underlying23 hi0 hz0 hz1 hz2 rfl (by omega) _ Lp.length _ rfl (World.ownsRow.alloc hown _) ⟨wr.heap.size, 0, none⟩ 1 1 [_] rfl rfl (news_at rfl) (one_of1 rfl) (by unfold maxLen; omega) (by omega) (by simp; omega) ?_; intro v1 w1 hn1 hg1 _; refine Hid.out ?_)
        have ho1 := OwnB.app (m := [93]) rfl (by rfl) hn1
        have hr1 := RK.app1 hr0 hs0 hown hg1
        have hs1 := Nat.le_trans hB0 hr1.1.size
        obtain ⟨L1, hL1⟩ : ∃ Q, Q = Lp ++ [93] := ⟨_, rfl⟩
        have hl1 : L1.length ≤ Lp.length + 1 := by rw [hL1, List.length_append]; exact Nat.le_refl _
        rw [← hL1] at ho1
        have HL1 := Lib.hid hL1
        obtain ⟨A1, c1, hv1⟩ := ownsRow_form ho1
        subst hv1
        clear hn1 hg1 hL1 hown
        refine Lib.hid ?_
        go_wp2_with fail
        go_ret
        exact ⟨_, rfl, OwnB.to ho1 (by rw [HT.out, HC.out, ← HLP.out, HL1.out]; simp), HRA.out.trans hr1⟩
    | succ g =>
      obtain ⟨p, hp⟩ : ∃ p, l[k]? = some p := ⟨_, List.getElem?_eq_getElem (by omega)⟩
      obtain ⟨hlp, hfp⟩ := HLB.out k p hp
      have HE := Lib.hid (HEA.out k p hp)
      obtain ⟨Lp, hLp⟩ : ∃ Q, Q = L ++ 91 :: ET k := ⟨_, rfl⟩
      rw [← hLp] at hown hlp
      rw [← hLp] at HE
      clear hLp HLB HEA HLE HT
      obtain ⟨A0, c0, rfl⟩ := ownsRow_form hown
      obtain ⟨bl, off, rfl, hbB, hrt⟩ := TermsAt.at_ HTL.out (k := k) (by omega)
      obtain ⟨vs, e1, hvs⟩ := RdTL.iff.1 hrt k p hp
      have HVS := Lib.hid hvs
      have HE1 := Lib.hid e1
      have HCP := Lib.hid (fun (D : Nat) (x : Int) (u : Value) (Q : List UInt8) (W : World) (hx : x = (D : Int)) (h1 : RdT W B p vs) (h2 : B ≤ W.heap.size) (h3 : OwnB W B u Q) (h4 : Fit (builtV p) D) (h5 : Q.length + 1048576 * cntV (builtV p) ≤ 137438953472) => (by rw [hx]; exact ih p (List.mem_of_getElem? hp) vs u Q B W D h1 h2 h3 h4 h5 : Calls Tryz.prog 69 #[u, termOf vs, .bool false, .int .i64 x] W (XKPost B (Q ++ putV false (builtV p) D) W)))
      obtain ⟨n0, n1, n2, n3, n4, n5, n6, n7, n8, n9, n10, rfl, h1c⟩ := hvs.eleven
      have hlt : k < l.length := by omega
      have hlt2 : (k : Int) < (l.length : Int) := by omega
      generalize cntV (builtV p) = NP at *
      clear hp hrt hvs e1 ih HTL h1c
      by_cases hk0 : k = 0
      · subst hk0
        go_wp2_with fail
        refine (HBK.out (dp + 1) _ _ ?hy).mono ?_
        case hy => simp
        rintro e wb ⟨rfl, rfl⟩
        have HSE : Hid (sepT false 0 dp = []) := Lib.hid (by unfold sepT; rw [if_neg (by decide), if_neg (by omega)])
        have kap := fun (ty : TypeId) => run_append_of_nil (P := Tryz.prog) wr B 23 ty 5 i0 1 Tryz.underlying23 hi0 _ _ _ hown 0
        go_wp2_with (at_builtin; refine Lib.wpList_append_run _ rfl (.tmp 74) (.tmp 78) _ _ rfl _ _ rfl rfl _ _ (kap _) ?_; refine Hid.out ?_)
        clear kap
        refine Lib.hid ?_
        have hbx := RK.block hr0 HB0.out (by intro c fz h; injection h with _ h _; exact absurd h (by decide))
        have d0 : wr.cell? ⟨w.heap.size, 0, none⟩ = some (.int .i64 8) := by rw [Lib.cell_of_heap hbx]; rfl
        have d7 : wr.cell? ⟨w.heap.size, 7, none⟩ = some (.slice (some ⟨bl, off, none⟩) l.length cl) := by rw [Lib.cell_of_heap hbx]; rfl
        have hbel : Below B w wr := (HRA.out.trans hr0).1
        have e1' := HE1.out.keep (fun q hq => hbel.cell (by rw [hq]; exact hbB))
        have hvs2 := Lib.hid (RdT.below HVS.out hbel)
        simp only [Nat.zero_mul, Nat.add_zero] at e1'
        have q0 := e1' 0 _ rfl
        have q1 := e1' 1 _ rfl
        have q2 := e1' 2 _ rfl
        have q3 := e1' 3 _ rfl
        have q4 := e1' 4 _ rfl
        have q5 := e1' 5 _ rfl
        have q6 := e1' 6 _ rfl
        have q7 := e1' 7 _ rfl
        have q8 := e1' 8 _ rfl
        have q9 := e1' 9 _ rfl
        have q10 := e1' 10 _ rfl
        simp only [Nat.add_zero] at q0
        clear e1' hbx hbel HE1
        go_wp2_with fail
        refine (HCP.out (dp + 1) _ _ _ _ ?hx hvs2.out hs0 hown hfp (by omega)).mono ?_
        case hx => simp
        rintro e wz ⟨vz, rfl, hoz, hrz⟩
        have HOZ : Hid (OwnB wz B vz (L ++ 91 :: ET (0 + 1))) := Lib.hid (OwnB.to hoz (by rw [HE.out, HSE.out]; simp))
        have HRZ := Lib.hid (hr0.trans hrz)
        obtain ⟨Az, cz, hvz⟩ := ownsRow_form hoz
        subst hvz
        generalize (Lp ++ putV false (builtV p) (dp + 1)) = Lz at *
        clear hoz hrz
        go_wp2_with fail
        go_roundg g
        case rel => exact ⟨0 + 1, by first | go_num | simp, by omega, HOZ.out, HRZ.out⟩
        case measure => omega
      · have hq : 0 < (k : Int) := by omega
        go_wp2_with (at_builtin; refine wpList_append_own _ rfl (.tmp 66) (.tmp 67) 23 rfl B 5 i0 _ 1 1 Tryz.underlying23 hi0 hz0 hz1 hz2 rfl (by omega) _ Lp.length _ rfl (World.ownsRow.alloc hown _) ⟨wr.heap.size, 0, none⟩ 1 1 [_] rfl rfl (news_at rfl) (one_of1 rfl) (by unfold maxLen; omega) (by omega) (by simp; omega) ?_; intro v1 w1 hn1 hg1 _; refine Hid.out ?_)
        have ho1 := OwnB.app (m := [44]) rfl (by rfl) hn1
        have hr1 := RK.app1 hr0 hs0 hown hg1
        have hs1 := Nat.le_trans hB0 hr1.1.size
        obtain ⟨L1, hL1⟩ : ∃ Q, Q = Lp ++ [44] := ⟨_, rfl⟩
        have hl1 : L1.length ≤ Lp.length + 1 := by rw [hL1, List.length_append]; exact Nat.le_refl _
        rw [← hL1] at ho1
        have HL1 := Lib.hid hL1
        obtain ⟨A1, c1, hv1⟩ := ownsRow_form ho1
        subst hv1
        clear hn1 hg1 hL1 hown
        refine Lib.hid ?_
        go_wp2_with (at_builtin; refine wpList_append_own _ rfl (.tmp 71) (.tmp 72) 23 rfl B 5 i0 _ 1 1 Tryz.underlying23 hi0 hz0 hz1 hz2 rfl (by omega) _ L1.length _ rfl (World.ownsRow.alloc ho1 _) ⟨w1.heap.size, 0, none⟩ 1 1 [_] rfl rfl (news_at rfl) (one_of1 rfl) (by unfold maxLen; omega) (by omega) (by simp; omega) ?_; intro v2 w2 hn2 hg2 _; refine Hid.out ?_)
        have ho2 := OwnB.app (m := [32]) rfl (by rfl) hn2
        have hr2 := RK.app1 hr1 hs1 ho1 hg2
        have hs2 := Nat.le_trans hB0 hr2.1.size
        obtain ⟨L2, hL2⟩ : ∃ Q, Q = L1 ++ [32] := ⟨_, rfl⟩
        have hl2 : L2.length ≤ L1.length + 1 := by rw [hL2, List.length_append]; exact Nat.le_refl _
        rw [← hL2] at ho2
        have HL2 := Lib.hid hL2
        obtain ⟨A2, c2, hv2⟩ := ownsRow_form ho2
        subst hv2
        clear hn2 hg2 hL2 ho1
        refine Lib.hid ?_
        go_wp2_with fail
        refine (HBK.out (dp + 1) _ _ ?hy).mono ?_
        case hy => simp
        rintro e wb ⟨rfl, rfl⟩
        have HSE : Hid (sepT false k dp = [44, 32]) := Lib.hid (by unfold sepT; rw [if_neg (by decide), if_pos (by omega)])
        have kap := fun (ty : TypeId) => run_append_of_nil (P := Tryz.prog) w2 B 23 ty 5 i0 1 Tryz.underlying23 hi0 _ _ _ ho2 0
        go_wp2_with (at_builtin; refine Lib.wpList_append_run _ rfl (.tmp 74) (.tmp 78) _ _ rfl _ _ rfl rfl _ _ (kap _) ?_; refine Hid.out ?_)
        clear kap
        refine Lib.hid ?_
        have hbx := RK.block hr2 HB0.out (by intro c fz h; injection h with _ h _; exact absurd h (by decide))
        have d0 : w2.cell? ⟨w.heap.size, 0, none⟩ = some (.int .i64 8) := by rw [Lib.cell_of_heap hbx]; rfl
        have d7 : w2.cell? ⟨w.heap.size, 7, none⟩ = some (.slice (some ⟨bl, off, none⟩) l.length cl) := by rw [Lib.cell_of_heap hbx]; rfl
        have hbel : Below B w w2 := (HRA.out.trans hr2).1
        have e1' := HE1.out.keep (fun q hq => hbel.cell (by rw [hq]; exact hbB))
        have hvs2 := Lib.hid (RdT.below HVS.out hbel)
        have q0 := e1' 0 _ rfl
        have q1 := e1' 1 _ rfl
        have q2 := e1' 2 _ rfl
        have q3 := e1' 3 _ rfl
        have q4 := e1' 4 _ rfl
        have q5 := e1' 5 _ rfl
        have q6 := e1' 6 _ rfl
        have q7 := e1' 7 _ rfl
        have q8 := e1' 8 _ rfl
        have q9 := e1' 9 _ rfl
        have q10 := e1' 10 _ rfl
        simp only [Nat.add_zero] at q0
        clear e1' hbx hbel HE1
        go_wp2_with fail
        refine (HCP.out (dp + 1) _ _ _ _ ?hx hvs2.out hs2 ho2 hfp (by omega)).mono ?_
        case hx => simp
        rintro e wz ⟨vz, rfl, hoz, hrz⟩
        have HOZ : Hid (OwnB wz B vz (L ++ 91 :: ET (k + 1))) := Lib.hid (OwnB.to hoz (by rw [HE.out, HSE.out, HL2.out, HL1.out]; simp))
        have HRZ := Lib.hid (hr2.trans hrz)
        obtain ⟨Az, cz, hvz⟩ := ownsRow_form hoz
        subst hvz
        generalize (L2 ++ putV false (builtV p) (dp + 1)) = Lz at *
        clear hoz hrz
        go_wp2_with fail
        go_roundg g
        case rel => exact ⟨k + 1, by first | go_num | simp, by omega, HOZ.out, HRZ.out⟩
        case measure => omega
set_option maxRecDepth 100000 in
set_option maxHeartbeats 4000000 in
theorem rput_8_true (b : Bool) (i : Int) (f : Nat) (t : ByteArray) (bs : List UInt8) (r : Int) (l : List Tm) (d : List (ByteArray × Tm)) (c : ByteArray) (v : Int) (ih : ∀ x ∈ l, RPutC true x) : RPutC true (.mk 8 b i f t bs r l d c v) := by
  rintro x u L B w dp ⟨Ab, cb, Al, cl, Ad, cd, rfl, hk, hi, ht, hbl, ⟨hbn, hbs⟩, hr0, hr1, hc, hv, ⟨hll, hl⟩, ⟨hdl, hd⟩⟩ hBw hown hfit hlen
  obtain ⟨i0, hi0, hz0, hz1, hz2⟩ := info_parts Tryz.infoByte
  have hBV : builtV (.mk 8 b i f t bs r l d c v) = .list (builtL l) := by simp [builtV]
  rw [hBV] at hfit hlen ⊢
  obtain ⟨hd64, hl4, hfl⟩ := hfit
  have hbl2 : (builtL l).length = l.length := by rw [builtL_eq]; simp
  rw [hbl2] at hl4
  have hcv : cntV (.list (builtL l)) = cntL (builtL l) + 1 := rfl
  rw [hcv] at hlen
  have hee := fun (k : Nat) (hk : k ≤ l.length) => eachL_len true (builtL l) dp hd64 hfl k (by omega)
  have hct := fun (k : Nat) (x : V) (hx : (builtL l)[k]? = some x) => cntL_take (builtL l) k x hx
  have HT : Hid (L ++ putV true (.list (builtL l)) dp = (L ++ 91 :: eachT true (bfL true (builtL l) dp) dp l.length) ++ (closeT true l.length dp ++ [93])) := Lib.hid (by
    have := putL_each true (builtL l) dp l.length (by omega)
    rw [List.drop_of_length_le (by omega), putL, List.append_nil] at this
    rw [putV, this, hbl2]; simp)
  have HEA : Hid (∀ (k : Nat) (p : Tm), l[k]? = some p → L ++ 91 :: eachT true (bfL true (builtL l) dp) dp (k + 1) = (L ++ 91 :: eachT true (bfL true (builtL l) dp) dp k) ++ (sepT true k dp ++ putV true (builtV p) (dp + 1))) := Lib.hid (fun k p hp => by
    rw [eachT]; unfold bfL; rw [show elV (builtL l) k = builtV p by simp [elV, builtL_eq, hp]]; simp)
  have HLB : Hid (∀ (k : Nat) (p : Tm), l[k]? = some p → (L ++ 91 :: eachT true (bfL true (builtL l) dp) dp k).length + 1000 + 1048576 * cntV (builtV p) ≤ 137438953472 ∧ Fit (builtV p) (dp + 1)) := Lib.hid (fun k p hp => by
    have hk := (List.getElem?_eq_some_iff.1 hp).1
    have h1 := hee k (by omega)
    have h2 := hct k (builtV p) (by simp [builtL_eq, hp])
    refine ⟨?_, hfl.at_ _ (by rw [builtL_eq]; exact List.mem_map_of_mem (List.mem_of_getElem? hp))⟩
    rw [List.length_append, List.length_cons]; omega)
  have HLE : Hid ((L ++ 91 :: eachT true (bfL true (builtL l) dp) dp l.length).length + 1000 ≤ 137438953472) := Lib.hid (by
    have h1 := hee l.length (by omega)
    rw [List.take_of_length_le (by omega)] at h1
    rw [List.length_append, List.length_cons]; omega)
  have hn9 : L.length + 10 ≤ 137438953472 := by omega
  clear hee hct hfl hlen hBV hbl2 hcv
  have HET0 : Hid (eachT true (bfL true (builtL l) dp) dp 0 = []) := Lib.hid rfl
  generalize eachT true (bfL true (builtL l) dp) dp = ET at *
  have HTL : Hid (TermsAt w B Al l) := Lib.hid hl
  obtain ⟨A0, c0, rfl⟩ := ownsRow_form hown
  have hrA := RK.alloc (RK.refl B w) hBw (.cells #[.int .i64 8, .bool b, .int .i64 i, .float .f64 f, .string t, .slice Ab bs.length cb, .int .u64 r, .slice Al l.length cl, .slice Ad d.length cd, .string c, .int .i64 v] 29)
  have HRA := Lib.hid hrA
  have HB0 : Hid ((w.alloc (.cells #[.int .i64 8, .bool b, .int .i64 i, .float .f64 f, .string t, .slice Ab bs.length cb, .int .u64 r, .slice Al l.length cl, .slice Ad d.length cd, .string c, .int .i64 v] 29)).heap[w.heap.size]? = some (.cells #[.int .i64 8, .bool b, .int .i64 i, .float .f64 f, .string t, .slice Ab bs.length cb, .int .u64 r, .slice Al l.length cl, .slice Ad d.length cd, .string c, .int .i64 v] 29 (0, 0))) := Lib.hid (heap_alloc_new _ _)
  have hoB := OwnB.below hown ((Below.refl w.heap.size w).alloc (Nat.le_refl _) (.cells #[.int .i64 8, .bool b, .int .i64 i, .float .f64 f, .string t, .slice Ab bs.length cb, .int .u64 r, .slice Al l.length cl, .slice Ad d.length cd, .string c, .int .i64 v] 29))
  have hB0 : B ≤ (w.alloc (.cells #[.int .i64 8, .bool b, .int .i64 i, .float .f64 f, .string t, .slice Ab bs.length cb, .int .u64 r, .slice Al l.length cl, .slice Ad d.length cd, .string c, .int .i64 v] 29)).heap.size := by simp; omega
  have hrB := RK.refl B (w.alloc (.cells #[.int .i64 8, .bool b, .int .i64 i, .float .f64 f, .string t, .slice Ab bs.length cb, .int .u64 r, .slice Al l.length cl, .slice Ad d.length cd, .string c, .int .i64 v] 29))
  have hsB := hB0
  clear hrA hown hl hd hbs hbn hbl hll hdl
  have HBK : Hid (∀ (D : Nat) (x : Int) (W : World), x = (D : Int) → D ≤ 100 → Calls Tryz.prog 124 #[.bool true, .int .i64 x] W (XPost W.heap.size (brkT true D) W)) := Lib.hid (fun D x W h1 h2 => by rw [h1]; exact breaks_any true D h2 W)
  have HBL : Hid (∀ D : Nat, D ≤ 100 → (brkT true D).length ≤ 201 ∧ brkT true D ≠ []) := Lib.hid (fun D hD => by refine ⟨?_, by simp [brkT]⟩; show (10 :: List.replicate (2 * D) (32 : UInt8)).length ≤ 201; rw [List.length_cons, List.length_replicate]; omega)
  unfold termOf
  go_enter Tryz.func69, Tryz.ntmps69
  go_wp2_with (at_builtin; refine wpList_append_own _ rfl (.tmp 55) (.tmp 57) 23 rfl B 5 i0 _ 1 1 Tryz.underlying23 hi0 hz0 hz1 hz2 rfl (by omega) _ L.length _ rfl (World.ownsRow.alloc hoB _) ⟨w.heap.size + 1, 0, none⟩ 1 1 [_] rfl rfl (news_at (by simp)) (one_of1 rfl) (by unfold maxLen; omega) (by omega) (by simp; omega) ?_; intro v1 w1 hn1 hg1 _; refine Hid.out ?_)
  have ho1 := OwnB.app (m := [91]) rfl (by rfl) hn1
  have hr1 := RK.app1 hrB hsB hoB hg1
  have hs1 := Nat.le_trans hB0 hr1.1.size
  obtain ⟨L1, hL1⟩ : ∃ Q, Q = L ++ [91] := ⟨_, rfl⟩
  have hl1 : L1.length ≤ L.length + 1 := by rw [hL1, List.length_append]; exact Nat.le_refl _
  rw [← hL1] at ho1
  have HL1 := Lib.hid hL1
  obtain ⟨A1, c1, hv1⟩ := ownsRow_form ho1
  subst hv1
  clear hn1 hg1 hL1 hoB
  refine Lib.hid ?_
  go_wp2_with fail
  go_loopg [0, 12] l.length (fun g y j wr => ∃ k : Nat, j = .int .i64 k ∧ k + g = l.length ∧ OwnB wr B y (L ++ 91 :: ET k) ∧ RK B (w.alloc (.cells #[.int .i64 8, .bool b, .int .i64 i, .float .f64 f, .string t, .slice Ab bs.length cb, .int .u64 r, .slice Al l.length cl, .slice Ad d.length cd, .string c, .int .i64 v] 29)) wr)
  case atStart => exact ⟨0, rfl, by omega, ho1.to (by rw [HL1.out, HET0.out]), hr1⟩
  case round =>
    obtain ⟨k, rfl, hkg, hown, hr0⟩ := hrel
    have hs0 := Nat.le_trans hB0 hr0.1.size
    cases gk with
    | zero =>
      obtain rfl : k = l.length := by omega
      have hlp : (L ++ 91 :: ET l.length).length + 1000 ≤ 137438953472 := HLE.out
      obtain ⟨Lp, hLp⟩ : ∃ Q, Q = L ++ 91 :: ET l.length := ⟨_, rfl⟩
      rw [← hLp] at hown hlp
      have HLP := Lib.hid hLp
      clear hLp HLE HLB HEA
      obtain ⟨A0, c0, rfl⟩ := ownsRow_form hown
      by_cases h0 : l.length = 0
      · have hq : ¬ (0 < (l.length : Int)) := by omega
        have HC : Hid (closeT true l.length dp = []) := Lib.hid (by unfold closeT; rw [h0]; simp)
        clear h0
        go_wp2_with (at_builtin; refine wpList_append_own _ rfl (.tmp 122) (.tmp 124) 23 rfl B 5 i0 _ 1 1 Tryz.underlying23 hi0 hz0 hz1 hz2 rfl (by omega) _ Lp.length _ rfl (World.ownsRow.alloc hown _) ⟨wr.heap.size, 0, none⟩ 1 1 [_] rfl rfl (news_at rfl) (one_of1 rfl) (by unfold maxLen; omega) (by omega) (by simp; omega) ?_; intro v1 w1 hn1 hg1 _; refine Hid.out ?_)
        have ho1 := OwnB.app (m := [93]) rfl (by rfl) hn1
        have hr1 := RK.app1 hr0 hs0 hown hg1
        have hs1 := Nat.le_trans hB0 hr1.1.size
        obtain ⟨L1, hL1⟩ : ∃ Q, Q = Lp ++ [93] := ⟨_, rfl⟩
        have hl1 : L1.length ≤ Lp.length + 1 := by rw [hL1, List.length_append]; exact Nat.le_refl _
        rw [← hL1] at ho1
        have HL1 := Lib.hid hL1
        obtain ⟨A1, c1, hv1⟩ := ownsRow_form ho1
        subst hv1
        clear hn1 hg1 hL1 hown
        refine Lib.hid ?_
        go_wp2_with fail
        go_ret
        exact ⟨_, rfl, OwnB.to ho1 (by rw [HT.out, HC.out, ← HLP.out, HL1.out]; simp), HRA.out.trans hr1⟩
      · have hq : 0 < (l.length : Int) := by omega
        have HC : Hid (closeT true l.length dp = brkT true dp) := Lib.hid (by unfold closeT brkT; rw [if_pos ⟨rfl, by omega⟩]; rfl)
        clear h0
        have hbl := HBL.out dp (by omega)
        go_wp2_with fail
        refine (HBK.out dp _ _ rfl (by omega)).mono ?_
        rintro e wb ⟨vb, rfl, hob, hbb⟩
        generalize brkT true dp = M at *
        obtain ⟨gb, cb2, rfl, hcb⟩ := OwnB.src hob hbl.2
        have hml := hbl.1
        clear hob hbl HBL
        have hox0 := OwnB.below hown hbb
        have hrx0 := RK.call hr0 hs0 hbb
        have hsx0 := Nat.le_trans hB0 hrx0.1.size
        clear hown
        clear hbb
        go_wp2_with (at_builtin; refine wpList_append_own _ rfl (.tmp 117) (.tmp 120) 23 rfl B 5 i0 _ 1 1 Tryz.underlying23 hi0 hz0 hz1 hz2 rfl (by omega) _ Lp.length _ rfl hox0 ⟨gb, 0, none⟩ M.length cb2 (Lib.byteCells M) rfl (by simp [Lib.byteCells]) hcb (byte_ones _) (by unfold maxLen; omega) (by omega) hsx0 ?_; intro v1 w1 hn1 hg1 _; refine Hid.out ?_)
        have ho1 := OwnB.app (m := M) rfl rfl hn1
        have hr1 := RK.app0 hrx0 hsx0 hox0 hg1
        have hs1 := Nat.le_trans hB0 hr1.1.size
        obtain ⟨L1, hL1⟩ : ∃ Q, Q = Lp ++ M := ⟨_, rfl⟩
        have hl1 : L1.length ≤ Lp.length + M.length := by rw [hL1, List.length_append]; exact Nat.le_refl _
        rw [← hL1] at ho1
        have HL1 := Lib.hid hL1
        obtain ⟨A1, c1, hv1⟩ := ownsRow_form ho1
        subst hv1
        clear hn1 hg1 hL1 hox0
        refine Lib.hid ?_
        go_wp2_with (at_builtin; refine wpList_append_own _ rfl (.tmp 122) (.tmp 124) 23 rfl B 5 i0 _ 1 1 Tryz.underlying23 hi0 hz0 hz1 hz2 rfl (by omega) _ L1.length _ rfl (World.ownsRow.alloc ho1 _) ⟨w1.heap.size, 0, none⟩ 1 1 [_] rfl rfl (news_at rfl) (one_of1 rfl) (by unfold maxLen; omega) (by omega) (by simp; omega) ?_; intro v2 w2 hn2 hg2 _; refine Hid.out ?_)
        have ho2 := OwnB.app (m := [93]) rfl (by rfl) hn2
        have hr2 := RK.app1 hr1 hs1 ho1 hg2
        have hs2 := Nat.le_trans hB0 hr2.1.size
        obtain ⟨L2, hL2⟩ : ∃ Q, Q = L1 ++ [93] := ⟨_, rfl⟩
        have hl2 : L2.length ≤ L1.length + 1 := by rw [hL2, List.length_append]; exact Nat.le_refl _
        rw [← hL2] at ho2
        have HL2 := Lib.hid hL2
        obtain ⟨A2, c2, hv2⟩ := ownsRow_form ho2
        subst hv2
        clear hn2 hg2 hL2 ho1
        refine Lib.hid ?_
        go_wp2_with fail
        go_ret
        exact ⟨_, rfl, OwnB.to ho2 (by rw [HT.out, HC.out, ← HLP.out, HL2.out, HL1.out]; simp), HRA.out.trans hr2⟩
    | succ g =>
      obtain ⟨p, hp⟩ : ∃ p, l[k]? = some p := ⟨_, List.getElem?_eq_getElem (by omega)⟩
      obtain ⟨hlp, hfp⟩ := HLB.out k p hp
      have HE := Lib.hid (HEA.out k p hp)
      obtain ⟨Lp, hLp⟩ : ∃ Q, Q = L ++ 91 :: ET k := ⟨_, rfl⟩
      rw [← hLp] at hown hlp
      rw [← hLp] at HE
      clear hLp HLB HEA HLE HT
      obtain ⟨A0, c0, rfl⟩ := ownsRow_form hown
      obtain ⟨bl, off, rfl, hbB, hrt⟩ := TermsAt.at_ HTL.out (k := k) (by omega)
      obtain ⟨vs, e1, hvs⟩ := RdTL.iff.1 hrt k p hp
      have HVS := Lib.hid hvs
      have HE1 := Lib.hid e1
      have HCP := Lib.hid (fun (D : Nat) (x : Int) (u : Value) (Q : List UInt8) (W : World) (hx : x = (D : Int)) (h1 : RdT W B p vs) (h2 : B ≤ W.heap.size) (h3 : OwnB W B u Q) (h4 : Fit (builtV p) D) (h5 : Q.length + 1048576 * cntV (builtV p) ≤ 137438953472) => (by rw [hx]; exact ih p (List.mem_of_getElem? hp) vs u Q B W D h1 h2 h3 h4 h5 : Calls Tryz.prog 69 #[u, termOf vs, .bool true, .int .i64 x] W (XKPost B (Q ++ putV true (builtV p) D) W)))
      obtain ⟨n0, n1, n2, n3, n4, n5, n6, n7, n8, n9, n10, rfl, h1c⟩ := hvs.eleven
      have hlt : k < l.length := by omega
      have hlt2 : (k : Int) < (l.length : Int) := by omega
      generalize cntV (builtV p) = NP at *
      clear hp hrt hvs e1 ih HTL h1c
      by_cases hk0 : k = 0
      · subst hk0
        have hbl := HBL.out (dp + 1) (by omega)
        go_wp2_with fail
        refine (HBK.out (dp + 1) _ _ ?hy (by omega)).mono ?_
        case hy => simp
        rintro e wb ⟨vb, rfl, hob, hbb⟩
        have HSE : Hid (sepT true 0 dp = [] ++ brkT true (dp + 1)) := Lib.hid (by unfold sepT brkT; rw [if_pos rfl, if_neg (by omega)]; rfl)
        generalize brkT true (dp + 1) = M at *
        obtain ⟨gb, cb2, rfl, hcb⟩ := OwnB.src hob hbl.2
        have hml := hbl.1
        clear hob hbl HBL
        have hox0 := OwnB.below hown hbb
        have hrx0 := RK.call hr0 hs0 hbb
        have hsx0 := Nat.le_trans hB0 hrx0.1.size
        clear hown
        clear hbb
        go_wp2_with (at_builtin; refine wpList_append_own _ rfl (.tmp 74) (.tmp 78) 23 rfl B 5 i0 _ 1 1 Tryz.underlying23 hi0 hz0 hz1 hz2 rfl (by omega) _ Lp.length _ rfl hox0 ⟨gb, 0, none⟩ M.length cb2 (Lib.byteCells M) rfl (by simp [Lib.byteCells]) hcb (byte_ones _) (by unfold maxLen; omega) (by omega) hsx0 ?_; intro v1 w1 hn1 hg1 _; refine Hid.out ?_)
        have ho1 := OwnB.app (m := M) rfl rfl hn1
        have hr1 := RK.app0 hrx0 hsx0 hox0 hg1
        have hs1 := Nat.le_trans hB0 hr1.1.size
        obtain ⟨L1, hL1⟩ : ∃ Q, Q = Lp ++ M := ⟨_, rfl⟩
        have hl1 : L1.length ≤ Lp.length + M.length := by rw [hL1, List.length_append]; exact Nat.le_refl _
        rw [← hL1] at ho1
        have HL1 := Lib.hid hL1
        obtain ⟨A1, c1, hv1⟩ := ownsRow_form ho1
        subst hv1
        clear hn1 hg1 hL1 hox0
        refine Lib.hid ?_
        have hbx := RK.block hr1 HB0.out (by intro c fz h; injection h with _ h _; exact absurd h (by decide))
        have d0 : w1.cell? ⟨w.heap.size, 0, none⟩ = some (.int .i64 8) := by rw [Lib.cell_of_heap hbx]; rfl
        have d7 : w1.cell? ⟨w.heap.size, 7, none⟩ = some (.slice (some ⟨bl, off, none⟩) l.length cl) := by rw [Lib.cell_of_heap hbx]; rfl
        have hbel : Below B w w1 := (HRA.out.trans hr1).1
        have e1' := HE1.out.keep (fun q hq => hbel.cell (by rw [hq]; exact hbB))
        have hvs2 := Lib.hid (RdT.below HVS.out hbel)
        simp only [Nat.zero_mul, Nat.add_zero] at e1'
        have q0 := e1' 0 _ rfl
        have q1 := e1' 1 _ rfl
        have q2 := e1' 2 _ rfl
        have q3 := e1' 3 _ rfl
        have q4 := e1' 4 _ rfl
        have q5 := e1' 5 _ rfl
        have q6 := e1' 6 _ rfl
        have q7 := e1' 7 _ rfl
        have q8 := e1' 8 _ rfl
        have q9 := e1' 9 _ rfl
        have q10 := e1' 10 _ rfl
        simp only [Nat.add_zero] at q0
        clear e1' hbx hbel HE1
        go_wp2_with fail
        refine (HCP.out (dp + 1) _ _ _ _ ?hx hvs2.out hs1 ho1 hfp (by omega)).mono ?_
        case hx => simp
        rintro e wz ⟨vz, rfl, hoz, hrz⟩
        have HOZ : Hid (OwnB wz B vz (L ++ 91 :: ET (0 + 1))) := Lib.hid (OwnB.to hoz (by rw [HE.out, HSE.out, HL1.out]; simp))
        have HRZ := Lib.hid (hr1.trans hrz)
        obtain ⟨Az, cz, hvz⟩ := ownsRow_form hoz
        subst hvz
        generalize (L1 ++ putV true (builtV p) (dp + 1)) = Lz at *
        clear hoz hrz
        go_wp2_with fail
        go_roundg g
        case rel => exact ⟨0 + 1, by first | go_num | simp, by omega, HOZ.out, HRZ.out⟩
        case measure => omega
      · have hq : 0 < (k : Int) := by omega
        go_wp2_with (at_builtin; refine wpList_append_own _ rfl (.tmp 66) (.tmp 67) 23 rfl B 5 i0 _ 1 1 Tryz.underlying23 hi0 hz0 hz1 hz2 rfl (by omega) _ Lp.length _ rfl (World.ownsRow.alloc hown _) ⟨wr.heap.size, 0, none⟩ 1 1 [_] rfl rfl (news_at rfl) (one_of1 rfl) (by unfold maxLen; omega) (by omega) (by simp; omega) ?_; intro v1 w1 hn1 hg1 _; refine Hid.out ?_)
        have ho1 := OwnB.app (m := [44]) rfl (by rfl) hn1
        have hr1 := RK.app1 hr0 hs0 hown hg1
        have hs1 := Nat.le_trans hB0 hr1.1.size
        obtain ⟨L1, hL1⟩ : ∃ Q, Q = Lp ++ [44] := ⟨_, rfl⟩
        have hl1 : L1.length ≤ Lp.length + 1 := by rw [hL1, List.length_append]; exact Nat.le_refl _
        rw [← hL1] at ho1
        have HL1 := Lib.hid hL1
        obtain ⟨A1, c1, hv1⟩ := ownsRow_form ho1
        subst hv1
        clear hn1 hg1 hL1 hown
        refine Lib.hid ?_
        have hbl := HBL.out (dp + 1) (by omega)
        go_wp2_with fail
        refine (HBK.out (dp + 1) _ _ ?hy (by omega)).mono ?_
        case hy => simp
        rintro e wb ⟨vb, rfl, hob, hbb⟩
        have HSE : Hid (sepT true k dp = [44] ++ brkT true (dp + 1)) := Lib.hid (by unfold sepT brkT; rw [if_pos rfl, if_pos (by omega)]; rfl)
        generalize brkT true (dp + 1) = M at *
        obtain ⟨gb, cb2, rfl, hcb⟩ := OwnB.src hob hbl.2
        have hml := hbl.1
        clear hob hbl HBL
        have hox1 := OwnB.below ho1 hbb
        have hrx1 := RK.call hr1 hs1 hbb
        have hsx1 := Nat.le_trans hB0 hrx1.1.size
        clear ho1
        clear hbb
        go_wp2_with (at_builtin; refine wpList_append_own _ rfl (.tmp 74) (.tmp 78) 23 rfl B 5 i0 _ 1 1 Tryz.underlying23 hi0 hz0 hz1 hz2 rfl (by omega) _ L1.length _ rfl hox1 ⟨gb, 0, none⟩ M.length cb2 (Lib.byteCells M) rfl (by simp [Lib.byteCells]) hcb (byte_ones _) (by unfold maxLen; omega) (by omega) hsx1 ?_; intro v2 w2 hn2 hg2 _; refine Hid.out ?_)
        have ho2 := OwnB.app (m := M) rfl rfl hn2
        have hr2 := RK.app0 hrx1 hsx1 hox1 hg2
        have hs2 := Nat.le_trans hB0 hr2.1.size
        obtain ⟨L2, hL2⟩ : ∃ Q, Q = L1 ++ M := ⟨_, rfl⟩
        have hl2 : L2.length ≤ L1.length + M.length := by rw [hL2, List.length_append]; exact Nat.le_refl _
        rw [← hL2] at ho2
        have HL2 := Lib.hid hL2
        obtain ⟨A2, c2, hv2⟩ := ownsRow_form ho2
        subst hv2
        clear hn2 hg2 hL2 hox1
        refine Lib.hid ?_
        have hbx := RK.block hr2 HB0.out (by intro c fz h; injection h with _ h _; exact absurd h (by decide))
        have d0 : w2.cell? ⟨w.heap.size, 0, none⟩ = some (.int .i64 8) := by rw [Lib.cell_of_heap hbx]; rfl
        have d7 : w2.cell? ⟨w.heap.size, 7, none⟩ = some (.slice (some ⟨bl, off, none⟩) l.length cl) := by rw [Lib.cell_of_heap hbx]; rfl
        have hbel : Below B w w2 := (HRA.out.trans hr2).1
        have e1' := HE1.out.keep (fun q hq => hbel.cell (by rw [hq]; exact hbB))
        have hvs2 := Lib.hid (RdT.below HVS.out hbel)
        have q0 := e1' 0 _ rfl
        have q1 := e1' 1 _ rfl
        have q2 := e1' 2 _ rfl
        have q3 := e1' 3 _ rfl
        have q4 := e1' 4 _ rfl
        have q5 := e1' 5 _ rfl
        have q6 := e1' 6 _ rfl
        have q7 := e1' 7 _ rfl
        have q8 := e1' 8 _ rfl
        have q9 := e1' 9 _ rfl
        have q10 := e1' 10 _ rfl
        simp only [Nat.add_zero] at q0
        clear e1' hbx hbel HE1
        go_wp2_with fail
        refine (HCP.out (dp + 1) _ _ _ _ ?hx hvs2.out hs2 ho2 hfp (by omega)).mono ?_
        case hx => simp
        rintro e wz ⟨vz, rfl, hoz, hrz⟩
        have HOZ : Hid (OwnB wz B vz (L ++ 91 :: ET (k + 1))) := Lib.hid (OwnB.to hoz (by rw [HE.out, HSE.out, HL2.out, HL1.out]; simp))
        have HRZ := Lib.hid (hr2.trans hrz)
        obtain ⟨Az, cz, hvz⟩ := ownsRow_form hoz
        subst hvz
        generalize (L2 ++ putV true (builtV p) (dp + 1)) = Lz at *
        clear hoz hrz
        go_wp2_with fail
        go_roundg g
        case rel => exact ⟨k + 1, by first | go_num | simp, by omega, HOZ.out, HRZ.out⟩
        case measure => omega
end Go.Proofs.YtobpkelblpdajaaGreatDoor
