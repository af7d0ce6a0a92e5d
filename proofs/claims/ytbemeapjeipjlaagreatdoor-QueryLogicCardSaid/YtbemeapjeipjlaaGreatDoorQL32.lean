/- Walks: query.walk.ask of two parts: at. -/
import Derived.Test.YtbemeapjeipjlaaGreatDoorQL31
set_option linter.unusedVariables false
set_option linter.unusedSimpArgs false
namespace Go.Proofs.YtbemeapjeipjlaaGreatDoor
open Go Go.RowKit
attribute [local go_sem] ta_no_bool ta_yes_bool ta_nil_bool ta_no_int64 ta_yes_int64 ta_nil_int64 ta_no_flt ta_yes_flt ta_nil_flt ta_no_str ta_yes_str ta_nil_str ta_no_byt ta_yes_byt ta_nil_byt ta_no_ref ta_yes_ref ta_nil_ref ta_no_lst ta_yes_lst ta_nil_lst ta_no_dct ta_yes_dct ta_nil_dct ta_no_rec ta_yes_rec ta_nil_rec
set_option maxRecDepth 100000 in
set_option maxHeartbeats 1000000 in
theorem ask_pAt (a : Int) (p0 p1 : Ex) (nm : ByteArray) (t : Tm) (ih0 : AskC p0) (ih1 : AskC p1) : AskC (.mk oAt a [p0, p1] nm t) := by
  intro x v vv n S w bw hS hbw hn hx hv ht hw hh
  by_cases hlim : 1048576 < n + 1
  · exact ask_over _ _ _ _ _ x v vv n S w bw hS hbw hn hx hh hlim
  obtain ⟨A, c, y, rfl, hops, ha, hns, hty, hll, hp⟩ := hx
  obtain ⟨bp, offp, xs, eA, hSb, c0, hxs⟩ := PartsS.get (k := 0) (x := p0) hp rfl
  obtain ⟨bp1, offp1, ys, eB, hSb1, dd, hxs1⟩ := PartsS.get (k := 1) (x := p1) hp rfl
  rw [eA] at eB
  injection eB with eB
  injection eB with eB1 eB2 _
  subst eB1
  subst eB2
  subst eA
  rw [Nat.zero_mul, Nat.add_zero] at c0
  rw [Nat.one_mul] at dd
  have hy : Eleven y := hty.elevenS
  have HBad := Lib.hid (fun (W : World) => bad_any oAt a (.slice (some ⟨bp, offp, none⟩) 2 c) nm y hy rfl W)
  have HHe := Lib.hid (fun (W : World) (S' : Nat → Prop) (u z : V) (uv zv : Value) (hS' : ∀ b, S' b → b < W.heap.size) (hu : RdS W S' u uv) (hz : RdS W S' z zv) (tu : tameV u) (tz : tameV z) => qplace_any oAt a (.slice (some ⟨bp, offp, none⟩) 2 c) nm y hy rfl u z uv zv S' W hS' hu hz (tame_kind tu))
  obtain ⟨n0, n1, n2, n3, n4, n5, n6, n7, n8, n9, n10, rfl, h1c⟩ := hy
  clear h1c
  have hne : w.heap.size ≠ bw := by omega
  have hh1 : Hold (w.setCell ⟨bw, 0, none⟩ (.int .i64 ((n : Int) + 1))) bw 0 (.int .i64 ((n + 1 : Nat) : Int)) := hh.set _
  have hbw0 : bw < (w.setCell ⟨bw, 0, none⟩ (.int .i64 ((n : Int) + 1))).heap.size := by simp; omega
  have hba : Below (w.setCell ⟨bw, 0, none⟩ (.int .i64 ((n : Int) + 1))).heap.size (w.setCell ⟨bw, 0, none⟩ (.int .i64 ((n : Int) + 1))) ((w.setCell ⟨bw, 0, none⟩ (.int .i64 ((n : Int) + 1))).alloc (.cells #[.string oAt, .int .i64 a, .slice (some ⟨bp, offp, none⟩) 2 c, .string nm, n0, n1, n2, n3, n4, n5, n6, n7, n8, n9, n10] 32)) := (Below.refl _ _).alloc (Nat.le_refl _) _
  have HA1 : Hid (Aside bw w ((w.setCell ⟨bw, 0, none⟩ (.int .i64 ((n : Int) + 1))).alloc (.cells #[.string oAt, .int .i64 a, .slice (some ⟨bp, offp, none⟩) 2 c, .string nm, n0, n1, n2, n3, n4, n5, n6, n7, n8, n9, n10] 32))) := Lib.hid ((Aside.set 0 _).trans (Aside.of_below hba))
  have HH1 : Hid (Hold ((w.setCell ⟨bw, 0, none⟩ (.int .i64 ((n : Int) + 1))).alloc (.cells #[.string oAt, .int .i64 a, .slice (some ⟨bp, offp, none⟩) 2 c, .string nm, n0, n1, n2, n3, n4, n5, n6, n7, n8, n9, n10] 32)) bw 0 (.int .i64 ((n + 1 : Nat) : Int))) := Lib.hid (hh1.below hba hbw0)
  have e0 : wrap64 ((n : Int) + 1) = (n : Int) + 1 := by unfold wrap64; omega
  obtain ⟨hc0, hf0⟩ := hh
  have hc1 : (w.setCell ⟨bw, 0, none⟩ (.int .i64 ((n : Int) + 1))).cell? ⟨bw, 0, none⟩ = some (.int .i64 ((n : Int) + 1)) := hh1.1
  have hbw1 : bw < ((w.setCell ⟨bw, 0, none⟩ (.int .i64 ((n : Int) + 1))).alloc (.cells #[.string oAt, .int .i64 a, .slice (some ⟨bp, offp, none⟩) 2 c, .string nm, n0, n1, n2, n3, n4, n5, n6, n7, n8, n9, n10] 32)).heap.size := by simp; omega
  have hS1 : Seen S ((w.setCell ⟨bw, 0, none⟩ (.int .i64 ((n : Int) + 1))).alloc (.cells #[.string oAt, .int .i64 a, .slice (some ⟨bp, offp, none⟩) 2 c, .string nm, n0, n1, n2, n3, n4, n5, n6, n7, n8, n9, n10] 32)) bw := hS.to HA1.out.size
  clear hh1 hba
  have c1 := c0.keep (fun p hp => HA1.out.cell (by rw [hp]; exact (hS bp hSb).1) (by rw [hp]; exact (hS bp hSb).2))
  have HC := Lib.hid (ih0 xs v vv (n + 1) S ((w.setCell ⟨bw, 0, none⟩ (.int .i64 ((n : Int) + 1))).alloc (.cells #[.string oAt, .int .i64 a, .slice (some ⟨bp, offp, none⟩) 2 c, .string nm, n0, n1, n2, n3, n4, n5, n6, n7, n8, n9, n10] 32)) bw hS1 hbw1 (by omega) (hxs.aside hS HA1.out) (hv.aside hS HA1.out) ht (hw.aside hS HA1.out) HH1.out)
  have HAsk1 := Lib.hid (fun (w1 : World) (S2 : Nat → Prop) (m : Nat) (hA : Aside bw w w1) (hS2 : Seen S2 w1 bw) (hSI : ∀ b, S b → S2 b) (hm : m ≤ 1048576) (hbw : bw < w1.heap.size) (hH : Hold w1 bw 0 (.int .i64 m)) => ih1 ys v vv m S2 w1 bw hS2 hbw hm (RdES.more hSI _ _ (hxs1.aside hS hA)) (RdS.more hSI _ _ (hv.aside hS hA)) ht ((hw.aside hS hA).more hSI) hH)
  have HTm := Lib.hid (ask_tame p0 v (n + 1) ht)
  have HCnt := Lib.hid (ask_count p0 v (n + 1) (by omega))
  have HTm1 := Lib.hid (fun m => ask_tame p1 v m ht)
  have HPv : Hid (∀ u z, pairV oAt a u z = placeV' a u z) := Lib.hid (fun u z => by unfold pairV; rw [if_pos rfl])
  have HU : Hid (askV (.mk oAt a [p0, p1] nm t) v n = bindA (askV p0 v (n + 1)) fun x m => bindA (askV p1 v m) fun y k => (pairV oAt a x y, k)) := Lib.hid (by rw [askV]; unfold stepA; rw [if_neg (by omega), if_neg (by decide), if_neg (by decide), if_neg (by decide), if_neg (by decide), if_neg (by decide), if_neg (by decide), if_neg (by decide), if_neg (by decide), if_neg (by decide), if_neg (by decide), if_neg (by decide)]; rfl)
  have ho' : ¬ (1048576 : Int) < (n : Int) + 1 := by omega
  clear ih0 ih1 hp c0 hty
  generalize askV p0 v (n + 1) = q at *
  generalize askV p1 v = fa1 at *
  obtain ⟨op', a', l', nm', t'⟩ := p0
  obtain ⟨A', c', y', rfl, -, -, -, hty', -⟩ := hxs
  obtain ⟨m0, m1, m2, m3, m4, m5, m6, m7, m8, m9, m10, rfl, h1c⟩ := hty'.elevenS
  obtain ⟨op2, a2, l2, nm2, t2⟩ := p1
  obtain ⟨A2, c2, y2, rfl, -, -, -, hty2, -⟩ := hxs1
  obtain ⟨j0, j1, j2, j3, j4, j5, j6, j7, j8, j9, j10, rfl, h2c⟩ := hty2.elevenS
  unfold termOf eV at *
  have q0 := c1 0 _ rfl
  have q1 := c1 1 _ rfl
  have q2 := c1 2 _ rfl
  have q3 := c1 3 _ rfl
  have q4 := c1 4 _ rfl
  have q5 := c1 5 _ rfl
  have q6 := c1 6 _ rfl
  have q7 := c1 7 _ rfl
  have q8 := c1 8 _ rfl
  have q9 := c1 9 _ rfl
  have q10 := c1 10 _ rfl
  have q11 := c1 11 _ rfl
  have q12 := c1 12 _ rfl
  have q13 := c1 13 _ rfl
  have q14 := c1 14 _ rfl
  simp only [Nat.add_zero] at q0
  clear hty' h1c c1 hty2 h2c hv hw
  obtain ⟨ou, m'⟩ := q
  go_enter Tryz.func44, Tryz.ntmps44
  cases ou with
  | gone ga gw =>
    go_wp2_with fail
    refine HC.out.mono ?_
    rintro e w1 ⟨hA2, hH2, rfl⟩
    exact ⟨rfl, AskPost.gone_ (by rw [HU.out]; rfl) (HA1.out.trans hA2) hH2⟩
  | val u =>
    go_wp2_with fail
    refine HC.out.mono ?_
    rintro e w1 ⟨hA2, hH2, uv, rfl, huv⟩
    have hz3 := hA2.size
    have hz4 : w.heap.size + 1 ≤ w1.heap.size := by have := hA2.size; simp at this; omega
    have hA3 := HA1.out.trans hA2
    have hS2 : Seen (fun b => S b ∨ New ((w.setCell ⟨bw, 0, none⟩ (.int .i64 ((n : Int) + 1))).alloc (.cells #[.string oAt, .int .i64 a, .slice (some ⟨bp, offp, none⟩) 2 c, .string nm, n0, n1, n2, n3, n4, n5, n6, n7, n8, n9, n10] 32)) w1 b) w1 bw := hS1.more hbw1 hA2.size
    have hSN : ∀ b, (S b ∨ New ((w.setCell ⟨bw, 0, none⟩ (.int .i64 ((n : Int) + 1))).alloc (.cells #[.string oAt, .int .i64 a, .slice (some ⟨bp, offp, none⟩) 2 c, .string nm, n0, n1, n2, n3, n4, n5, n6, n7, n8, n9, n10] 32)) w1 b) → S b ∨ New w w1 b := fun b h => h.imp id (fun h => ⟨Nat.le_trans HA1.out.size h.1, h.2⟩)
    have hbw2 : bw < w1.heap.size := by omega
    have qa := fun (o : Nat) => hA2.cell (p := ⟨w.heap.size, o, none⟩) (by simp) hne
    have hut : tameV u := HTm.out u rfl
    have hm2 : m' ≤ 1048576 := HCnt.out u rfl
    have d1 := dd.keep (fun p hp => hA3.cell (by rw [hp]; exact (hS bp hSb).1) (by rw [hp]; exact (hS bp hSb).2))
    have HC1 := Lib.hid (HAsk1.out w1 _ m' hA3 hS2 (fun b h => .inl h) hm2 hbw2 hH2)
    have HTz := Lib.hid (HTm1.out m')
    have HU2 := Lib.hid (HU.out.trans (rfl : _ = bindA (fa1 m') fun y k => (pairV oAt a u y, k)))
    clear q0 q1 q2 q3 q4 q5 q6 q7 q8 q9 q10 q11 q12 q13 q14 HU HTm HCnt HTm1 HAsk1 dd
    have q0 := d1 0 _ rfl
    have q1 := d1 1 _ rfl
    have q2 := d1 2 _ rfl
    have q3 := d1 3 _ rfl
    have q4 := d1 4 _ rfl
    have q5 := d1 5 _ rfl
    have q6 := d1 6 _ rfl
    have q7 := d1 7 _ rfl
    have q8 := d1 8 _ rfl
    have q9 := d1 9 _ rfl
    have q10 := d1 10 _ rfl
    have q11 := d1 11 _ rfl
    have q12 := d1 12 _ rfl
    have q13 := d1 13 _ rfl
    have q14 := d1 14 _ rfl
    simp only [Nat.add_zero] at q0
    clear d1
    generalize fa1 m' = q2 at *
    obtain ⟨oz, k'⟩ := q2
    cases oz with
    | gone ga gw =>
      go_wp2_with fail
      refine HC1.out.mono ?_
      rintro e w2 ⟨hA4, hH4, rfl⟩
      exact ⟨rfl, AskPost.gone_ (by rw [HU2.out]; rfl) (hA3.trans hA4) hH4⟩
    | val z =>
      go_wp2_with fail
      refine HC1.out.mono ?_
      rintro e w2 ⟨hA4, hH4, zv, rfl, hzv⟩
      have hA5 := hA3.trans hA4
      have hz5 := hA4.size
      have hzt : tameV z := HTz.out z rfl
      have qb := fun (o : Nat) => (hA4.cell (p := ⟨w.heap.size, o, none⟩) (by show w.heap.size < w1.heap.size; omega) hne).trans (qa o)
      have hS3 := hS2.more hbw2 hA4.size
      have HHz := Lib.hid (HHe.out w2 _ u z uv zv (fun b h => (hS3 b h).1) (RdS.more (fun b h => .inl h) _ _ (huv.aside hS2 hA4)) hzv hut hzt)
      rw [← HPv.out] at HHz
      clear q0 q1 q2 q3 q4 q5 q6 q7 q8 q9 q10 q11 q12 q13 q14 HHe
      go_wp2_with fail
      refine HHz.out.mono ?_
      rintro e w9 hr9
      have hP := AskPost.out (n := k') (S := S) hr9 hA5 (fun b h => h.elim (fun h => (hSN b h).imp id (fun h => ⟨h.1, Nat.lt_of_lt_of_le h.2 hz5⟩)) (fun h => .inr ⟨Nat.le_trans hA3.size h.1, h.2⟩)) (by omega) hH4
      replace hP := AskPost.eq_ HU2.out hP
      cases hg : pairV oAt a u z with
      | val t9 =>
        rw [hg] at hr9
        obtain ⟨hb9, v9, rfl, hv9⟩ := hr9
        go_wp2
        go_ret
        exact hP
      | gone gb gw =>
        rw [hg] at hr9
        obtain ⟨hb9, rfl⟩ := hr9
        exact ⟨rfl, hP⟩
end Go.Proofs.YtbemeapjeipjlaaGreatDoor
