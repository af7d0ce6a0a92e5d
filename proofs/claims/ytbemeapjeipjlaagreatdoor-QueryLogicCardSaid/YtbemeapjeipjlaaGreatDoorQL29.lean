/- Walks: query.walk.call: keys, has. -/
import Derived.Test.YtbemeapjeipjlaaGreatDoorQL26
set_option linter.unusedVariables false
set_option linter.unusedSimpArgs false
namespace Go.Proofs.YtbemeapjeipjlaaGreatDoor
open Go Go.RowKit
attribute [local go_sem] ta_no_bool ta_yes_bool ta_nil_bool ta_no_int64 ta_yes_int64 ta_nil_int64 ta_no_flt ta_yes_flt ta_nil_flt ta_no_str ta_yes_str ta_nil_str ta_no_byt ta_yes_byt ta_nil_byt ta_no_ref ta_yes_ref ta_nil_ref ta_no_lst ta_yes_lst ta_nil_lst ta_no_dct ta_yes_dct ta_nil_dct ta_no_rec ta_yes_rec ta_nil_rec
theorem namesOf_take {l : List (ByteArray × V)} {k : Nat} {p : ByteArray × V} (hp : l[k]? = some p) : (l.take (k + 1)).map (fun p => V.text p.1) = (l.take k).map (fun p => V.text p.1) ++ [.text p.1] := by
  rw [List.take_add_one, hp]; simp
set_option maxRecDepth 100000 in
set_option maxHeartbeats 1000000 in
theorem call_keys (a : Int) (p0 : Ex) (A : Option Addr) (c : Nat) (y : List Value) (hy : Eleven y) (ih0 : AskC p0) (v : V) (vv : Value) (n : Nat) (S : Nat → Prop) (w : World) (bw : Nat)
    (hS : Seen S w bw) (hbw : bw < w.heap.size) (hn : n ≤ 1048576) (hp : PartsS w S A [p0]) (hv : RdS w S v vv) (ht : tameV v) (hw : Words w S 1 kindWords) (hh : Hold w bw 0 (.int .i64 n)) :
    Calls Tryz.prog 66 #[.pointer (some ⟨bw, 0, none⟩), eV oCall a (.slice A 1 c) gKeys y, vv] w (AskPost S bw (callA gKeys a (askL [p0]) v n) w) := by
  have HBad := Lib.hid (fun (W : World) => bad_any oCall a (.slice A 1 c) gKeys y hy rfl W)
  have HGood := Lib.hid (fun (x : V) (u : Value) (S' : Nat → Prop) (W : World) => good_any oCall a (.slice A 1 c) gKeys y hy rfl x u S' W)
  obtain ⟨n0, n1, n2, n3, n4, n5, n6, n7, n8, n9, n10, rfl, h1⟩ := hy
  clear h1
  unfold eV at *
  have HB : Hid (Below w.heap.size w (w.alloc (.cells #[.string oCall, .int .i64 a, .slice A 1 c, .string gKeys, n0, n1, n2, n3, n4, n5, n6, n7, n8, n9, n10] 32))) := Lib.hid ((Below.refl _ _).alloc (Nat.le_refl _) _)
  have HA0 : Hid (Aside bw w (w.alloc (.cells #[.string oCall, .int .i64 a, .slice A 1 c, .string gKeys, n0, n1, n2, n3, n4, n5, n6, n7, n8, n9, n10] 32))) := Lib.hid (Aside.of_below HB.out)
  obtain ⟨bp, offp, xs, eA, hSb, c0, hxs⟩ := hp.get (k := 0) (x := p0) rfl
  subst eA
  rw [Nat.zero_mul, Nat.add_zero] at c0
  have c1 := c0.keep (fun p hp => HB.out.cell (by rw [hp]; exact (hS bp hSb).1))
  have HC := Lib.hid (ih0 xs v vv n S _ bw (hS.to HB.out.size) (Nat.lt_of_lt_of_le hbw HB.out.size) hn (hxs.aside hS HA0.out) (hv.aside hS HA0.out) ht (hw.aside hS HA0.out) (hh.below HB.out hbw))
  have HCnt := Lib.hid (ask_count p0 v n hn)
  have HTm := Lib.hid (ask_tame p0 v n ht)
  have HU : Hid (callA gKeys a (askL [p0]) v n = bindA (askV p0 v n) fun x m => (keysV a x, m)) := Lib.hid (by unfold callA; refine congrArg (bindA _) ?_; funext x m; rfl)
  have hne : w.heap.size ≠ bw := by omega
  clear ih0 hp hh c0
  generalize askV p0 v n = q at *
  obtain ⟨op', a', l', nm', t'⟩ := p0
  obtain ⟨A', c', y', rfl, -, -, -, hty, -⟩ := hxs
  obtain ⟨m0, m1, m2, m3, m4, m5, m6, m7, m8, m9, m10, rfl, h1c⟩ := hty.elevenS
  unfold termOf at HC
  have q0 := c1 0 _ rfl
  have q1 := c1 1 _ rfl
  have q2 := c1 2 _ rfl
  have q3 := c1 3 _ rfl
  have q4 := c1 4 _ rfl
  have q5 := c1 5 _ rfl
  have q6 := c1 6 _ rfl
  have q7 := c1 7 _ rfl
  have q8 := c1 8 _ rfl
  have q9 := c1 9 _ rfl
  have q10 := c1 10 _ rfl
  have q11 := c1 11 _ rfl
  have q12 := c1 12 _ rfl
  have q13 := c1 13 _ rfl
  have q14 := c1 14 _ rfl
  simp only [Nat.add_zero] at q0
  clear hty h1c c1
  obtain ⟨ou, m'⟩ := q
  go_enter Tryz.func66, Tryz.ntmps66
  cases ou with
  | gone ga gw =>
    go_wp2_with fail
    refine HC.out.mono ?_
    rintro e w1 ⟨hA2, hH2, rfl⟩
    exact ⟨rfl, AskPost.gone_ (by rw [HU.out]; rfl) (HA0.out.trans hA2) hH2⟩
  | val u =>
    have hm2 : m' ≤ 1048576 := HCnt.out u rfl
    have hut : tameV u := HTm.out u rfl
    have HU2 := Lib.hid (HU.out.trans rfl)
    clear HCnt HTm HU
    go_wp2_with fail
    refine HC.out.mono ?_
    rintro e w1 ⟨hA2, hH2, uv, rfl, huv⟩
    have hA3 := HA0.out.trans hA2
    have hz3 := hA3.size
    have hz4 : w.heap.size + 1 ≤ w1.heap.size := by have := hA2.size; simp at this; omega
    have hS1 : Seen (fun b => S b ∨ New (w.alloc (.cells #[.string oCall, .int .i64 a, .slice (some ⟨bp, offp, none⟩) 1 c, .string gKeys, n0, n1, n2, n3, n4, n5, n6, n7, n8, n9, n10] 32)) w1 b) w1 bw := (hS.to HB.out.size).more (Nat.lt_of_lt_of_le hbw HB.out.size) hA2.size
    have hSN : ∀ b, (S b ∨ New (w.alloc (.cells #[.string oCall, .int .i64 a, .slice (some ⟨bp, offp, none⟩) 1 c, .string gKeys, n0, n1, n2, n3, n4, n5, n6, n7, n8, n9, n10] 32)) w1 b) → S b ∨ New w w1 b := fun b h => h.imp id (fun h => ⟨Nat.le_trans HB.out.size h.1, h.2⟩)
    have hbw1 : bw < w1.heap.size := by omega
    have qe := fun (o : Nat) => hA2.cell (p := ⟨w.heap.size, o, none⟩) (by simp) hne
    have HTu := Lib.hid (turns_gKeys w1)
    go_wp2_with fail
    refine HTu.out.mono ?_
    rintro e w2 ⟨rfl, rfl⟩
    have HQ := Lib.hid (qfields_any u uv _ w1 (tame_kind hut) huv)
    unfold FieldsPost at HQ
    cases hf : fieldsOf u with
    | none =>
      rw [hf] at HQ
      go_wp2_with fail
      refine HQ.out.mono ?_
      rintro e w3 ⟨rfl, rfl⟩
      go_wp2_with fail
      refine (HBad.out _).mono ?_
      rintro e w9 ⟨rfl, hb9⟩
      exact ⟨rfl, AskPost.gone_ (by rw [HU2.out]; show (keysV a u, m') = _; unfold keysV; rw [hf]) (hA3.trans (Aside.of_below hb9)) (hH2.below hb9 hbw1)⟩
    | some l =>
      rw [hf] at HQ
      have HK : Hid (callA gKeys a (askL [.mk op' a' l' nm' t']) v n = (goodV a (.list (l.map fun p => .text p.1)), m')) := Lib.hid (HU2.out.trans (by show (keysV a u, m') = _; unfold keysV; rw [hf]))
      obtain ⟨i0, hi0, hz0, hz1, hz2⟩ := info_parts Tryz.infoAny
      go_wp2_with fail
      refine HQ.out.mono ?_
      rintro e w3 ⟨rfl, Al, cl, rfl, hll, hD⟩
      go_wp2
      have hO0 := OwnV.empty (fun _ => False) w1 w1.heap.size (Nat.le_refl _)
      go_loopw [12, 76] (fun s i wr => ∃ k : Nat, i = .int .i64 k ∧ k ≤ l.length ∧ Below w1.heap.size w1 wr ∧ OwnV (fun _ => False) wr w1.heap.size s ((l.take k).map fun p => .text p.1)) (fun _ i _ => l.length - (intOf i).toNat)
      case atStart => exact ⟨0, rfl, by omega, (Below.refl _ _).alloc (Nat.le_refl _) _, by simpa using hO0⟩
      case round =>
        clear hO0
        obtain ⟨k, rfl, hk, hb, hO⟩ := hrel
        have hz := hb.size
        have qe' := fun (o : Nat) => (hb.cell (p := ⟨w.heap.size, o, none⟩) (by show w.heap.size < w1.heap.size; omega)).trans (qe o)
        have hlen : ((l.take k).map fun p => V.text p.1).length = k := by simp; omega
        obtain ⟨Ao, co, eform⟩ := hO.form
        rw [hlen] at eform
        subst eform
        by_cases hlt : k < l.length
        · obtain ⟨p, hp'⟩ : ∃ p, l[k]? = some p := ⟨_, List.getElem?_eq_getElem hlt⟩
          obtain ⟨b, off, fv, rfl, hSf, d0, hps, d1, hfv⟩ := hD.get hp'
          have hlb : b < w1.heap.size := (hS1 b hSf).1
          replace d0 := (hb.cell (p := ⟨b, off + k * 2, none⟩) hlb).trans d0
          replace d1 := (hb.cell (p := ⟨b, off + k * 2 + 1, none⟩) hlb).trans d1
          have hst := fun (W : World) (a : Addr) (m : Mode) => run_store Tryz.prog W a fv m hfv.one
          have HTk := Lib.hid (namesOf_take hp')
          have hb2 : Below wr.heap.size wr (wr.alloc (.cells #[.string p.1, fv] 44)) := (Below.refl _ _).alloc (Nat.le_refl _) _
          have hb3 : Below wr.heap.size wr ((wr.alloc (.cells #[.string p.1, fv] 44)).alloc (.cells #[.iface 9 (.string p.1)] 20)) := hb2.alloc (by simp) _
          have hb4 := hb.trans (hb3.mono hz)
          have hO3 := hO.below hb3
          obtain ⟨zs, hown, hzs⟩ := hO3
          rw [hlen] at hown
          have hz4 : w1.heap.size ≤ ((wr.alloc (.cells #[.string p.1, fv] 44)).alloc (.cells #[.iface 9 (.string p.1)] 20)).heap.size := hb4.size
          clear hD hp' hfv hO
          go_wp2_with (at_builtin; go_must (refine wpList_append_lies _ rfl (.tmp 80) (.tmp 84) 73 rfl w1.heap.size 20 i0 _ 1 16 Tryz.underlying73 hi0 hz0 hz1 hz2 rfl (by omega) (.slice Ao k co) k zs rfl hown ⟨wr.heap.size + 1, 0, none⟩ 1 1 [_] rfl rfl (news_at (by simp)) (one_of1 rfl) (by omega) (by simp only [maxLen]; omega) (by omega) hz4 _ rfl ?_); intro g cap w2 hown2 hg2 hat hlt2)
          have hO5 := OwnV.snoc (y := .text p.1) hlen hown hzs ⟨rfl, hps⟩ hown2 hg2 hat
          refine ⟨⟨k + 1, rfl, hlt, hb4.grown hg2 hz4 (fun j hj => (hown.lt j hj).1), by rw [HTk.out]; exact hO5⟩, ?_⟩
          simp [intOf]; omega
        · obtain rfl : k = l.length := by omega
          rw [List.take_length] at hO
          have hR := hO.read (by simp; omega)
          have HG := Lib.hid (HGood.out (.list (l.map fun p => .text p.1)) (.iface 73 (.slice Ao l.length co)) _ wr (fun b hb => hb.2) hR)
          clear hD hO hR
          go_wp2_with fail
          refine HG.out.mono ?_
          rintro e w9 hr9
          have hA4 := hA3.trans (Aside.of_below hb)
          have hH4 := hH2.below hb hbw1
          have hP := AskPost.out (n := m') (S := S) hr9 hA4 (fun b h => .inr ⟨h.1.elim (fun h => h.elim) (fun h => Nat.le_trans hz3 h), h.2⟩) (Nat.lt_of_lt_of_le hbw1 hz) hH4
          replace hP := AskPost.eq_ HK.out hP
          cases hg : goodV a (.list (l.map fun p => .text p.1)) with
          | val t =>
            rw [hg] at hr9
            obtain ⟨hb9, v9, rfl, hv9⟩ := hr9
            go_wp2
            go_ret
            exact hP
          | gone gb gw =>
            rw [hg] at hr9
            obtain ⟨hb9, rfl⟩ := hr9
            exact ⟨rfl, hP⟩
set_option maxRecDepth 100000 in
set_option maxHeartbeats 1000000 in
theorem call_has (a : Int) (p0 p1 : Ex) (A : Option Addr) (c : Nat) (y : List Value) (hy : Eleven y) (ih0 : AskC p0) (ih1 : AskC p1) (v : V) (vv : Value) (n : Nat) (S : Nat → Prop) (w : World) (bw : Nat)
    (hS : Seen S w bw) (hbw : bw < w.heap.size) (hn : n ≤ 1048576) (hp : PartsS w S A [p0, p1]) (hv : RdS w S v vv) (ht : tameV v) (hw : Words w S 1 kindWords) (hh : Hold w bw 0 (.int .i64 n)) :
    Calls Tryz.prog 66 #[.pointer (some ⟨bw, 0, none⟩), eV oCall a (.slice A 2 c) gHas y, vv] w (AskPost S bw (callA gHas a (askL [p0, p1]) v n) w) := by
  have HBad := Lib.hid (fun (W : World) => bad_any oCall a (.slice A 2 c) gHas y hy rfl W)
  have HGood := Lib.hid (fun (x : V) (u : Value) (S' : Nat → Prop) (W : World) => good_any oCall a (.slice A 2 c) gHas y hy rfl x u S' W)
  obtain ⟨n0, n1, n2, n3, n4, n5, n6, n7, n8, n9, n10, rfl, h1⟩ := hy
  clear h1
  unfold eV at *
  have HB : Hid (Below w.heap.size w (w.alloc (.cells #[.string oCall, .int .i64 a, .slice A 2 c, .string gHas, n0, n1, n2, n3, n4, n5, n6, n7, n8, n9, n10] 32))) := Lib.hid ((Below.refl _ _).alloc (Nat.le_refl _) _)
  have HA0 : Hid (Aside bw w (w.alloc (.cells #[.string oCall, .int .i64 a, .slice A 2 c, .string gHas, n0, n1, n2, n3, n4, n5, n6, n7, n8, n9, n10] 32))) := Lib.hid (Aside.of_below HB.out)
  obtain ⟨bp, offp, xs, eA, hSb, c0, hxs⟩ := hp.get (k := 0) (x := p0) rfl
  obtain ⟨bp1, offp1, ys, eB, hSb1, dd, hxs1⟩ := hp.get (k := 1) (x := p1) rfl
  rw [eA] at eB
  injection eB with eB
  injection eB with eB1 eB2 _
  subst eB1
  subst eB2
  rw [Nat.one_mul] at dd
  subst eA
  rw [Nat.zero_mul, Nat.add_zero] at c0
  have c1 := c0.keep (fun p hp => HB.out.cell (by rw [hp]; exact (hS bp hSb).1))
  have HC := Lib.hid (ih0 xs v vv n S _ bw (hS.to HB.out.size) (Nat.lt_of_lt_of_le hbw HB.out.size) hn (hxs.aside hS HA0.out) (hv.aside hS HA0.out) ht (hw.aside hS HA0.out) (hh.below HB.out hbw))
  have HCnt := Lib.hid (ask_count p0 v n hn)
  have HTm := Lib.hid (ask_tame p0 v n ht)
  have HU : Hid (callA gHas a (askL [p0, p1]) v n = bindA (askV p0 v n) fun x m => bindA (askV p1 v m) fun y k => (hasV a x y, k)) := Lib.hid (by unfold callA; refine congrArg (bindA _) ?_; funext x m; rfl)
  have hne : w.heap.size ≠ bw := by omega
  clear ih0 hp hh c0
  generalize askV p0 v n = q at *
  obtain ⟨op', a', l', nm', t'⟩ := p0
  obtain ⟨A', c', y', rfl, -, -, -, hty, -⟩ := hxs
  obtain ⟨m0, m1, m2, m3, m4, m5, m6, m7, m8, m9, m10, rfl, h1c⟩ := hty.elevenS
  unfold termOf at HC
  have q0 := c1 0 _ rfl
  have q1 := c1 1 _ rfl
  have q2 := c1 2 _ rfl
  have q3 := c1 3 _ rfl
  have q4 := c1 4 _ rfl
  have q5 := c1 5 _ rfl
  have q6 := c1 6 _ rfl
  have q7 := c1 7 _ rfl
  have q8 := c1 8 _ rfl
  have q9 := c1 9 _ rfl
  have q10 := c1 10 _ rfl
  have q11 := c1 11 _ rfl
  have q12 := c1 12 _ rfl
  have q13 := c1 13 _ rfl
  have q14 := c1 14 _ rfl
  simp only [Nat.add_zero] at q0
  clear hty h1c c1
  obtain ⟨ou, m'⟩ := q
  go_enter Tryz.func66, Tryz.ntmps66
  cases ou with
  | gone ga gw =>
    go_wp2_with fail
    refine HC.out.mono ?_
    rintro e w1 ⟨hA2, hH2, rfl⟩
    exact ⟨rfl, AskPost.gone_ (by rw [HU.out]; rfl) (HA0.out.trans hA2) hH2⟩
  | val u =>
    have hm2 : m' ≤ 1048576 := HCnt.out u rfl
    have hut : tameV u := HTm.out u rfl
    have HU2 := Lib.hid (HU.out.trans rfl)
    clear HCnt HTm HU
    go_wp2_with fail
    refine HC.out.mono ?_
    rintro e w1 ⟨hA2, hH2, uv, rfl, huv⟩
    have hA3 := HA0.out.trans hA2
    have hz3 := hA3.size
    have hz4 : w.heap.size + 1 ≤ w1.heap.size := by have := hA2.size; simp at this; omega
    have hS1 : Seen (fun b => S b ∨ New (w.alloc (.cells #[.string oCall, .int .i64 a, .slice (some ⟨bp, offp, none⟩) 2 c, .string gHas, n0, n1, n2, n3, n4, n5, n6, n7, n8, n9, n10] 32)) w1 b) w1 bw := (hS.to HB.out.size).more (Nat.lt_of_lt_of_le hbw HB.out.size) hA2.size
    have hSN : ∀ b, (S b ∨ New (w.alloc (.cells #[.string oCall, .int .i64 a, .slice (some ⟨bp, offp, none⟩) 2 c, .string gHas, n0, n1, n2, n3, n4, n5, n6, n7, n8, n9, n10] 32)) w1 b) → S b ∨ New w w1 b := fun b h => h.imp id (fun h => ⟨Nat.le_trans HB.out.size h.1, h.2⟩)
    have hbw1 : bw < w1.heap.size := by omega
    have qe := fun (o : Nat) => hA2.cell (p := ⟨w.heap.size, o, none⟩) (by simp) hne
    have HTu := Lib.hid (turns_gHas w1)
    go_wp2_with fail
    refine HTu.out.mono ?_
    rintro e w2 ⟨rfl, rfl⟩
    have hx2 := (hxs1.aside hS hA3)
    have d1 := dd.keep (fun p hp => hA3.cell (by rw [hp]; exact (hS bp hSb).1) (by rw [hp]; exact (hS bp hSb).2))
    have HC1 := Lib.hid (ih1 ys v vv m' S w1 bw (hS.to hz3) hbw1 hm2 hx2 (hv.aside hS hA3) ht (hw.aside hS hA3) hH2)
    have HTm1 := Lib.hid (ask_tame p1 v m' ht)
    generalize hq1 : askV p1 v m' = q1 at *
    obtain ⟨o1, m1'⟩ := q1
    obtain ⟨op2, a2, l2, nm2, t2⟩ := p1
    obtain ⟨A2, c2, y2, rfl, -, -, -, hty2, -⟩ := hxs1
    obtain ⟨j0, j1, j2, j3, j4, j5, j6, j7, j8, j9, j10, rfl, h2c⟩ := hty2.elevenS
    unfold termOf at HC1
    clear q0 q1 q2 q3 q4 q5 q6 q7 q8 q9 q10 q11 q12 q13 q14
    have q0 := d1 0 _ rfl
    have q1 := d1 1 _ rfl
    have q2 := d1 2 _ rfl
    have q3 := d1 3 _ rfl
    have q4 := d1 4 _ rfl
    have q5 := d1 5 _ rfl
    have q6 := d1 6 _ rfl
    have q7 := d1 7 _ rfl
    have q8 := d1 8 _ rfl
    have q9 := d1 9 _ rfl
    have q10 := d1 10 _ rfl
    have q11 := d1 11 _ rfl
    have q12 := d1 12 _ rfl
    have q13 := d1 13 _ rfl
    have q14 := d1 14 _ rfl
    simp only [Nat.add_zero] at q0
    clear hty2 h2c d1 dd ih1 hx2
    cases o1 with
    | gone ga gw =>
      have HK : Hid (callA gHas a (askL [.mk op' a' l' nm' t', .mk op2 a2 l2 nm2 t2]) v n = (.gone ga gw, m1')) := Lib.hid (HU2.out.trans (by show bindA (askV _ v m') _ = _; rw [hq1]; rfl))
      go_wp2_with fail
      refine HC1.out.mono ?_
      rintro e w3 ⟨hA4, hH4, rfl⟩
      exact ⟨rfl, AskPost.gone_ HK.out (hA3.trans hA4) hH4⟩
    | val z =>
      have HK : Hid (callA gHas a (askL [.mk op' a' l' nm' t', .mk op2 a2 l2 nm2 t2]) v n = (hasV a u z, m1')) := Lib.hid (HU2.out.trans (by show bindA (askV _ v m') _ = _; rw [hq1]; rfl))
      clear HU2 hq1
      go_wp2_with fail
      refine HC1.out.mono ?_
      rintro e w3 ⟨hA4, hH5, zv, rfl, hzv⟩
      have hA5 := hA3.trans hA4
      have hz5 := hA4.size
      have hzt : tameV z := HTm1.out z rfl
      have qe5 := fun (o : Nat) => (hA4.cell (p := ⟨w.heap.size, o, none⟩) (by show w.heap.size < w1.heap.size; omega) hne).trans (qe o)
      have huv5 := huv.aside hS1 hA4
      have hS5 : Seen (fun b => S b ∨ New (w.alloc (.cells #[.string oCall, .int .i64 a, .slice (some ⟨bp, offp, none⟩) 2 c, .string gHas, n0, n1, n2, n3, n4, n5, n6, n7, n8, n9, n10] 32)) w1 b) w3 bw := hS1.to hA4.size
      have HQ := Lib.hid (qfields_any u uv _ w3 (tame_kind hut) huv5)
      unfold FieldsPost at HQ
      by_cases h5 : kindV z = 5
      · obtain ⟨s, rfl⟩ := kind_is_text h5
        obtain ⟨rfl, hs⟩ := hzv
        cases hf : fieldsOf u with
        | none =>
          rw [hf] at HQ
          go_wp2_with fail
          refine HQ.out.mono ?_
          rintro e w4 ⟨rfl, rfl⟩
          go_wp2_with fail
          refine (HBad.out _).mono ?_
          rintro e w9 ⟨rfl, hb9⟩
          exact ⟨rfl, AskPost.gone_ (HK.out.trans (by unfold hasV; rw [hf])) (hA5.trans (Aside.of_below hb9)) (hH5.below hb9 (by omega))⟩
        | some l =>
          rw [hf] at HQ
          go_wp2_with fail
          refine HQ.out.mono ?_
          rintro e w4 ⟨rfl, Al, cl, rfl, hll, hD⟩
          have HUn := Lib.hid (under_any l Al cl s _ w3 (fun b h => (hS5 b h).1) hll hD)
          unfold UnderPost at HUn
          cases hun : underV l s with
          | none =>
            rw [hun] at HUn
            go_wp2_with fail
            refine HUn.out.mono ?_
            rintro e w5 ⟨hb5, rfl⟩
            go_wp2
            go_ret
            exact AskPost.val_ (x := .bool false) (HK.out.trans (by unfold hasV; rw [hf]; exact congrArg (fun o => (Out.val (.bool (Option.isSome o)), m1')) hun)) (hA5.trans (Aside.of_below hb5)) (hH5.below hb5 (by omega)) rfl
          | some t =>
            rw [hun] at HUn
            go_wp2_with fail
            refine HUn.out.mono ?_
            rintro e w5 ⟨hb5, tv, rfl, htv⟩
            go_wp2
            go_ret
            exact AskPost.val_ (x := .bool true) (HK.out.trans (by unfold hasV; rw [hf]; exact congrArg (fun o => (Out.val (.bool (Option.isSome o)), m1')) hun)) (hA5.trans (Aside.of_below hb5)) (hH5.below hb5 (by omega)) rfl
      · have k0 := fun (W : World) => not_text hzv 20 W h5
        cases hf : fieldsOf u with
        | none =>
          rw [hf] at HQ
          go_wp2_with fail
          refine HQ.out.mono ?_
          rintro e w4 ⟨rfl, rfl⟩
          go_wp2_with fail
          refine (HBad.out _).mono ?_
          rintro e w9 ⟨rfl, hb9⟩
          exact ⟨rfl, AskPost.gone_ (HK.out.trans (by unfold hasV; rw [hf])) (hA5.trans (Aside.of_below hb9)) (hH5.below hb9 (by omega))⟩
        | some l =>
          rw [hf] at HQ
          go_wp2_with fail
          refine HQ.out.mono ?_
          rintro e w4 ⟨rfl, Al, cl, rfl, hll, hD⟩
          go_wp2_with fail
          refine (HBad.out _).mono ?_
          rintro e w9 ⟨rfl, hb9⟩
          exact ⟨rfl, AskPost.gone_ (HK.out.trans (by unfold hasV; rw [hf]; cases z <;> first | rfl | exact absurd rfl h5)) (hA5.trans (Aside.of_below hb9)) (hH5.below hb9 (by omega))⟩
end Go.Proofs.YtbemeapjeipjlaaGreatDoor
