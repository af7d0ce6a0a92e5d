/- The contract of an asking; walks: query.walk.logic. -/
import Derived.Test.YtbemeapjeipjlaaGreatDoorQL16
import Derived.Test.YtbemeapjeipjlaaGreatDoorQL17
set_option linter.unusedVariables false
set_option linter.unusedSimpArgs false
namespace Go.Proofs.YtbemeapjeipjlaaGreatDoor
open Go Go.RowKit
attribute [local go_sem] ta_no_bool ta_yes_bool ta_nil_bool ta_no_int64 ta_yes_int64 ta_nil_int64 ta_no_flt ta_yes_flt ta_nil_flt ta_no_str ta_yes_str ta_nil_str ta_no_byt ta_yes_byt ta_nil_byt ta_no_ref ta_yes_ref ta_nil_ref ta_no_lst ta_yes_lst ta_nil_lst ta_no_dct ta_yes_dct ta_nil_dct ta_no_rec ta_yes_rec ta_nil_rec
def AskC (e : Ex) : Prop := ∀ (x : List Value) (v : V) (vv : Value) (n : Nat) (S : Nat → Prop) (w : World) (bw : Nat), Seen S w bw → bw < w.heap.size → n ≤ 1048576 → RdES w S e x → RdS w S v vv → tameV v → Words w S 1 kindWords → Hold w bw 0 (.int .i64 n) →
  Calls Tryz.prog 44 #[.pointer (some ⟨bw, 0, none⟩), termOf x, vv] w (AskPost S bw (askV e v n) w)
theorem RdTS.elevenS {w : World} {S : Nat → Prop} {T : Tm} {y : List Value} (h : RdTS w S T y) : Eleven y := by
  obtain ⟨k, b, i, f, t, bs, r, l, d, c, v⟩ := T
  obtain ⟨Ab, cb, Al, cl, Ad, cd, rfl, _⟩ := h
  refine ⟨_, _, _, _, _, _, _, _, _, _, _, rfl, ?_⟩
  intro u hu
  simp at hu
  rcases hu with h | h | h | h | h | h | h | h | h | h | h <;> subst h <;> rfl
/- The parts of an expression, as they lie. -/
def PartsS (w : World) (S : Nat → Prop) (A : Option Addr) (l : List Ex) : Prop := l = [] ∨ ∃ b off, A = some ⟨b, off, none⟩ ∧ S b ∧ RdEL w S b off l
theorem PartsS.get {w : World} {S : Nat → Prop} {A : Option Addr} {l : List Ex} (h : PartsS w S A l) {k : Nat} {x : Ex} (hx : l[k]? = some x) :
    ∃ b off xs, A = some ⟨b, off, none⟩ ∧ S b ∧ Lie w b (off + k * 15) xs ∧ RdES w S x xs := by
  rcases h with h | ⟨b, off, h1, h2, h3⟩
  · subst h; cases hx
  · obtain ⟨v, hv, hr⟩ := RdEL.iff.1 h3 k x hx
    exact ⟨b, off, v, h1, h2, hv, hr⟩
theorem askL_drop {l : List Ex} {k : Nat} {x : Ex} (hx : l[k]? = some x) : (askL l).drop k = askV x :: (askL l).drop (k + 1) := by
  rw [askL_eq]
  obtain ⟨hk, e⟩ := List.getElem?_eq_some_iff.1 hx
  rw [List.drop_eq_getElem_cons (by simpa using hk)]
  simp [e]
theorem askL_end {l : List Ex} : (askL l).drop l.length = [] := by rw [askL_eq]; simp
/- An asking's end, seen from where it began. -/
theorem AskPost.back {S : Nat → Prop} {bw : Nat} {r : Out × Nat} {w W : World} {e : Ending} {w' : World} (h : AskPost S bw r W e w') (ha : Aside bw w W) : AskPost S bw r w e w' := by
  obtain ⟨h1, h2, h3⟩ := h
  refine ⟨ha.trans h1, h2, ?_⟩
  cases hr : r.1 with
  | val x =>
    rw [hr] at h3
    obtain ⟨v, e1, hv⟩ := h3
    exact ⟨v, e1, RdS.more (fun b h => h.imp id (fun h => ⟨Nat.le_trans ha.size h.1, h.2⟩)) _ _ hv⟩
  | gone a why => rw [hr] at h3; exact h3
theorem AskPost.gone_ {S : Nat → Prop} {bw n why : Nat} {a : Int} {r : Out × Nat} {w w' : World} (h : r = (.gone a why, n)) (hA : Aside bw w w') (hH : Hold w' bw 0 (.int .i64 n)) : AskPost S bw r w (.panicked [{ v := faultV a why, recovered := false }]) w' := by
  subst h; exact ⟨hA, hH, rfl⟩
theorem AskPost.val_ {S : Nat → Prop} {bw n : Nat} {x : V} {v : Value} {r : Out × Nat} {w w' : World} (h : r = (.val x, n)) (hA : Aside bw w w') (hH : Hold w' bw 0 (.int .i64 n)) (hv : RdS w' (fun b => S b ∨ New w w' b) x v) : AskPost S bw r w (.returned v) w' := by
  subst h; exact ⟨hA, hH, v, rfl, hv⟩
/- A step that asks nothing, behind an asking. -/
theorem AskPost.of_out {S : Nat → Prop} {bw n : Nat} {o : Out} {w W : World} {e : Ending} {w' : World} (h : OutPost S o W e w') (ha : Aside bw w W) (hl : bw < W.heap.size) (hh : Hold W bw 0 (.int .i64 n)) : AskPost S bw (o, n) w e w' := by
  obtain ⟨hb, h3⟩ := h
  refine ⟨ha.trans (Aside.of_below hb), hh.below hb hl, ?_⟩
  cases o with
  | val x =>
    obtain ⟨v, e1, hv⟩ := h3
    exact ⟨v, e1, RdS.more (fun b h => h.imp id (fun h => ⟨Nat.le_trans ha.size h.1, h.2⟩)) _ _ hv⟩
  | gone a why => exact h3
set_option maxRecDepth 100000 in
set_option maxHeartbeats 1000000 in
theorem logic_or (a : Int) (l : List Ex) (A : Option Addr) (c : Nat) (nm : ByteArray) (y : List Value) (hy : Eleven y) (ih : ∀ x ∈ l, AskC x) (v : V) (vv : Value) (n : Nat) (S : Nat → Prop) (w : World) (bw : Nat)
    (hS : Seen S w bw) (hbw : bw < w.heap.size) (hn : n ≤ 1048576) (hll : l.length * 216 ≤ 140737488351232) (hp : PartsS w S A l) (hv : RdS w S v vv) (ht : tameV v) (hw : Words w S 1 kindWords) (hh : Hold w bw 0 (.int .i64 n)) :
    Calls Tryz.prog 60 #[.pointer (some ⟨bw, 0, none⟩), eV oOr a (.slice A l.length c) nm y, vv] w (AskPost S bw (logicA a true (askL l) v n) w) := by
  have HBad := Lib.hid (fun (W : World) => bad_any oOr a (.slice A l.length c) nm y hy rfl W)
  obtain ⟨n0, n1, n2, n3, n4, n5, n6, n7, n8, n9, n10, rfl, h1⟩ := hy
  clear h1
  unfold eV at *
  have HB : Hid (Below w.heap.size w (w.alloc (.cells #[.string oOr, .int .i64 a, .slice A l.length c, .string nm, n0, n1, n2, n3, n4, n5, n6, n7, n8, n9, n10] 32))) := Lib.hid ((Below.refl _ _).alloc (Nat.le_refl _) _)
  have HA0 : Hid (Aside bw w (w.alloc (.cells #[.string oOr, .int .i64 a, .slice A l.length c, .string nm, n0, n1, n2, n3, n4, n5, n6, n7, n8, n9, n10] 32))) := Lib.hid (Aside.of_below HB.out)
  have hh0 := hh.below HB.out hbw
  have HAsk := Lib.hid (fun (x : Ex) (hx : x ∈ l) (xs : List Value) (m : Nat) (W : World) (hm : m ≤ 1048576) (hW : Aside bw (w.alloc (.cells #[.string oOr, .int .i64 a, .slice A l.length c, .string nm, n0, n1, n2, n3, n4, n5, n6, n7, n8, n9, n10] 32)) W) (hhW : Hold W bw 0 (.int .i64 m)) (hxs : RdES w S x xs) => ih x hx xs v vv m S W bw (hS.to (Nat.le_trans HB.out.size hW.size)) (Nat.lt_of_lt_of_le hbw (Nat.le_trans HB.out.size hW.size)) hm (hxs.aside hS (HA0.out.trans hW)) (hv.aside hS (HA0.out.trans hW)) ht (hw.aside hS (HA0.out.trans hW)) hhW)
  clear ih hv hw hh
  go_enter Tryz.func60, Tryz.ntmps60
  go_wp2
  go_loopw [14] (fun i wr => ∃ (k m : Nat), i = .int .i64 k ∧ k ≤ l.length ∧ m ≤ 1048576 ∧ Hid (logicA a true (askL l) v n = logicA a true ((askL l).drop k) v m) ∧ Aside bw (w.alloc (.cells #[.string oOr, .int .i64 a, .slice A l.length c, .string nm, n0, n1, n2, n3, n4, n5, n6, n7, n8, n9, n10] 32)) wr ∧ Hold wr bw 0 (.int .i64 m)) (fun i _ => l.length - (intOf i).toNat)
  case atStart => exact ⟨0, n, rfl, by omega, hn, Lib.hid rfl, Aside.refl _ _, hh0⟩
  case round =>
    clear hh0
    obtain ⟨k, m, rfl, hk, hm, HT, hA, hH⟩ := hrel
    have hA1 := HA0.out.trans hA
    have hz := hA1.size
    have hz1 : w.heap.size + 1 ≤ wr.heap.size := by have := hA.size; simp at this; omega
    have hne : w.heap.size ≠ bw := by omega
    have qe : ∀ o, wr.cell? ⟨w.heap.size, o, none⟩ = (w.alloc (.cells #[.string oOr, .int .i64 a, .slice A l.length c, .string nm, n0, n1, n2, n3, n4, n5, n6, n7, n8, n9, n10] 32)).cell? ⟨w.heap.size, o, none⟩ := fun o => hA.cell (p := ⟨w.heap.size, o, none⟩) (by simp) hne
    by_cases hlt : k < l.length
    · obtain ⟨x, hx⟩ : ∃ x, l[k]? = some x := ⟨_, List.getElem?_eq_getElem hlt⟩
      obtain ⟨b, off, xs, rfl, hSb, c0, hxs⟩ := hp.get hx
      have c1 := c0.keep (fun p hp => hA1.cell (by rw [hp]; exact (hS b hSb).1) (by rw [hp]; exact (hS b hSb).2))
      have hb3 : Below wr.heap.size wr (wr.alloc (.cells xs.toArray 32)) := (Below.refl _ _).alloc (Nat.le_refl _) _
      have HC := Lib.hid (HAsk.out x (List.mem_of_getElem? hx) xs m _ hm (hA.trans (Aside.of_below hb3)) (hH.below hb3 (by omega)) hxs)
      have HB3 := Lib.hid hb3
      have HDR := Lib.hid (askL_drop hx)
      have HCnt := Lib.hid (ask_count x v m hm)
      obtain ⟨op', a', l', nm', t'⟩ := x
      obtain ⟨A', c', y', rfl, -, -, -, hty, -⟩ := hxs
      obtain ⟨m0, m1, m2, m3, m4, m5, m6, m7, m8, m9, m10, rfl, h1c⟩ := hty.elevenS
      have q0 := c1 0 _ rfl
      have q1 := c1 1 _ rfl
      have q2 := c1 2 _ rfl
      have q3 := c1 3 _ rfl
      have q4 := c1 4 _ rfl
      have q5 := c1 5 _ rfl
      have q6 := c1 6 _ rfl
      have q7 := c1 7 _ rfl
      have q8 := c1 8 _ rfl
      have q9 := c1 9 _ rfl
      have q10 := c1 10 _ rfl
      have q11 := c1 11 _ rfl
      have q12 := c1 12 _ rfl
      have q13 := c1 13 _ rfl
      have q14 := c1 14 _ rfl
      simp only [Nat.add_zero] at q0
      have o0 := fun (W : World) (a : Addr) (m : Mode) => run_store Tryz.prog W a m0 m (h1c m0 (by simp))
      have o1 := fun (W : World) (a : Addr) (m : Mode) => run_store Tryz.prog W a m1 m (h1c m1 (by simp))
      have o2 := fun (W : World) (a : Addr) (m : Mode) => run_store Tryz.prog W a m2 m (h1c m2 (by simp))
      have o3 := fun (W : World) (a : Addr) (m : Mode) => run_store Tryz.prog W a m3 m (h1c m3 (by simp))
      have o4 := fun (W : World) (a : Addr) (m : Mode) => run_store Tryz.prog W a m4 m (h1c m4 (by simp))
      have o5 := fun (W : World) (a : Addr) (m : Mode) => run_store Tryz.prog W a m5 m (h1c m5 (by simp))
      have o6 := fun (W : World) (a : Addr) (m : Mode) => run_store Tryz.prog W a m6 m (h1c m6 (by simp))
      have o7 := fun (W : World) (a : Addr) (m : Mode) => run_store Tryz.prog W a m7 m (h1c m7 (by simp))
      have o8 := fun (W : World) (a : Addr) (m : Mode) => run_store Tryz.prog W a m8 m (h1c m8 (by simp))
      have o9 := fun (W : World) (a : Addr) (m : Mode) => run_store Tryz.prog W a m9 m (h1c m9 (by simp))
      have o10 := fun (W : World) (a : Addr) (m : Mode) => run_store Tryz.prog W a m10 m (h1c m10 (by simp))
      clear hp hx c0 c1 hS hty h1c HAsk hb3
      unfold termOf at HC
      generalize hq : askV (.mk op' a' l' nm' t') v m = q at *
      obtain ⟨o, m2'⟩ := q
      cases o with
      | gone ga gw =>
        have HF : Hid (logicA a true (askL l) v n = (.gone ga gw, m2')) := Lib.hid (by rw [HT.out, HDR.out, logicA, hq]; rfl)
        clear hq
        go_wp2_with fail
        refine HC.out.mono ?_
        rintro e w1 ⟨hA2, hH2, rfl⟩
        exact ⟨rfl, AskPost.gone_ HF.out (hA1.trans ((Aside.of_below HB3.out).trans hA2)) hH2⟩
      | val u =>
        have hm2 : m2' ≤ 1048576 := HCnt.out u rfl
        have HU : Hid (logicA a true (askL l) v n = (fun (x : V) (m : Nat) => match x with | .bool b => if b = true then (.val (.bool b), m) else logicA a true ((askL l).drop (k + 1)) v m | _ => (Out.gone a 172, m)) u m2') := Lib.hid (by rw [HT.out, HDR.out, logicA, hq]; rfl)
        clear hq
        by_cases h2 : kindV u = 2
        · obtain ⟨ub, rfl⟩ := kind_is_bool h2
          cases ub
          · have HT2 : Hid (logicA a true (askL l) v n = logicA a true ((askL l).drop (k + 1)) v m2') := Lib.hid (by rw [HU.out]; rfl)
            go_wp2_with fail
            refine HC.out.mono ?_
            rintro e w1 ⟨hA2, hH2, uv, rfl, rfl⟩
            have hA3 := hA.trans ((Aside.of_below HB3.out).trans hA2)
            have qe3 := fun (o : Nat) => hA3.cell (p := ⟨w.heap.size, o, none⟩) (by simp) hne
            go_wp2
            refine ⟨⟨k + 1, m2', rfl, hlt, hm2, HT2, hA3, hH2⟩, ?_⟩
            simp [intOf]; omega
          · have HF : Hid (logicA a true (askL l) v n = (.val (.bool true), m2')) := Lib.hid (by rw [HU.out]; rfl)
            go_wp2_with fail
            refine HC.out.mono ?_
            rintro e w1 ⟨hA2, hH2, uv, rfl, rfl⟩
            have hA3 := hA.trans ((Aside.of_below HB3.out).trans hA2)
            have qe3 := fun (o : Nat) => hA3.cell (p := ⟨w.heap.size, o, none⟩) (by simp) hne
            go_wp2
            go_ret
            exact AskPost.val_ HF.out (HA0.out.trans hA3) hH2 rfl
        · have HF : Hid (logicA a true (askL l) v n = (.gone a 172, m2')) := Lib.hid (by rw [HU.out]; cases u <;> first | rfl | exact absurd rfl h2)
          go_wp2_with fail
          refine HC.out.mono ?_
          rintro e w1 ⟨hA2, hH2, uv, rfl, huv⟩
          have hA3 := hA.trans ((Aside.of_below HB3.out).trans hA2)
          have k0 := fun (W : World) => not_bool huv 20 W h2
          have qe3 := fun (o : Nat) => hA3.cell (p := ⟨w.heap.size, o, none⟩) (by simp) hne
          go_wp2_with fail
          refine (HBad.out _).mono ?_
          rintro e w9 ⟨rfl, hb9⟩
          exact ⟨rfl, AskPost.gone_ HF.out (HA0.out.trans (hA3.trans (Aside.of_below hb9))) (hH2.below hb9 (by have := hA3.size; simp at this; omega))⟩
    · obtain rfl : k = l.length := by omega
      have HF : Hid (logicA a true (askL l) v n = (.val (.bool false), m)) := Lib.hid (by rw [HT.out, askL_end, logicA]; rfl)
      clear HAsk hp
      go_wp2
      go_ret
      exact AskPost.val_ HF.out hA1 hH rfl
set_option maxRecDepth 100000 in
set_option maxHeartbeats 1000000 in
theorem logic_and (a : Int) (l : List Ex) (A : Option Addr) (c : Nat) (nm : ByteArray) (y : List Value) (hy : Eleven y) (ih : ∀ x ∈ l, AskC x) (v : V) (vv : Value) (n : Nat) (S : Nat → Prop) (w : World) (bw : Nat)
    (hS : Seen S w bw) (hbw : bw < w.heap.size) (hn : n ≤ 1048576) (hll : l.length * 216 ≤ 140737488351232) (hp : PartsS w S A l) (hv : RdS w S v vv) (ht : tameV v) (hw : Words w S 1 kindWords) (hh : Hold w bw 0 (.int .i64 n)) :
    Calls Tryz.prog 60 #[.pointer (some ⟨bw, 0, none⟩), eV oAnd a (.slice A l.length c) nm y, vv] w (AskPost S bw (logicA a false (askL l) v n) w) := by
  have HBad := Lib.hid (fun (W : World) => bad_any oAnd a (.slice A l.length c) nm y hy rfl W)
  obtain ⟨n0, n1, n2, n3, n4, n5, n6, n7, n8, n9, n10, rfl, h1⟩ := hy
  clear h1
  unfold eV at *
  have HB : Hid (Below w.heap.size w (w.alloc (.cells #[.string oAnd, .int .i64 a, .slice A l.length c, .string nm, n0, n1, n2, n3, n4, n5, n6, n7, n8, n9, n10] 32))) := Lib.hid ((Below.refl _ _).alloc (Nat.le_refl _) _)
  have HA0 : Hid (Aside bw w (w.alloc (.cells #[.string oAnd, .int .i64 a, .slice A l.length c, .string nm, n0, n1, n2, n3, n4, n5, n6, n7, n8, n9, n10] 32))) := Lib.hid (Aside.of_below HB.out)
  have hh0 := hh.below HB.out hbw
  have HAsk := Lib.hid (fun (x : Ex) (hx : x ∈ l) (xs : List Value) (m : Nat) (W : World) (hm : m ≤ 1048576) (hW : Aside bw (w.alloc (.cells #[.string oAnd, .int .i64 a, .slice A l.length c, .string nm, n0, n1, n2, n3, n4, n5, n6, n7, n8, n9, n10] 32)) W) (hhW : Hold W bw 0 (.int .i64 m)) (hxs : RdES w S x xs) => ih x hx xs v vv m S W bw (hS.to (Nat.le_trans HB.out.size hW.size)) (Nat.lt_of_lt_of_le hbw (Nat.le_trans HB.out.size hW.size)) hm (hxs.aside hS (HA0.out.trans hW)) (hv.aside hS (HA0.out.trans hW)) ht (hw.aside hS (HA0.out.trans hW)) hhW)
  clear ih hv hw hh
  go_enter Tryz.func60, Tryz.ntmps60
  go_wp2
  go_loopw [14] (fun i wr => ∃ (k m : Nat), i = .int .i64 k ∧ k ≤ l.length ∧ m ≤ 1048576 ∧ Hid (logicA a false (askL l) v n = logicA a false ((askL l).drop k) v m) ∧ Aside bw (w.alloc (.cells #[.string oAnd, .int .i64 a, .slice A l.length c, .string nm, n0, n1, n2, n3, n4, n5, n6, n7, n8, n9, n10] 32)) wr ∧ Hold wr bw 0 (.int .i64 m)) (fun i _ => l.length - (intOf i).toNat)
  case atStart => exact ⟨0, n, rfl, by omega, hn, Lib.hid rfl, Aside.refl _ _, hh0⟩
  case round =>
    clear hh0
    obtain ⟨k, m, rfl, hk, hm, HT, hA, hH⟩ := hrel
    have hA1 := HA0.out.trans hA
    have hz := hA1.size
    have hz1 : w.heap.size + 1 ≤ wr.heap.size := by have := hA.size; simp at this; omega
    have hne : w.heap.size ≠ bw := by omega
    have qe : ∀ o, wr.cell? ⟨w.heap.size, o, none⟩ = (w.alloc (.cells #[.string oAnd, .int .i64 a, .slice A l.length c, .string nm, n0, n1, n2, n3, n4, n5, n6, n7, n8, n9, n10] 32)).cell? ⟨w.heap.size, o, none⟩ := fun o => hA.cell (p := ⟨w.heap.size, o, none⟩) (by simp) hne
    by_cases hlt : k < l.length
    · obtain ⟨x, hx⟩ : ∃ x, l[k]? = some x := ⟨_, List.getElem?_eq_getElem hlt⟩
      obtain ⟨b, off, xs, rfl, hSb, c0, hxs⟩ := hp.get hx
      have c1 := c0.keep (fun p hp => hA1.cell (by rw [hp]; exact (hS b hSb).1) (by rw [hp]; exact (hS b hSb).2))
      have hb3 : Below wr.heap.size wr (wr.alloc (.cells xs.toArray 32)) := (Below.refl _ _).alloc (Nat.le_refl _) _
      have HC := Lib.hid (HAsk.out x (List.mem_of_getElem? hx) xs m _ hm (hA.trans (Aside.of_below hb3)) (hH.below hb3 (by omega)) hxs)
      have HB3 := Lib.hid hb3
      have HDR := Lib.hid (askL_drop hx)
      have HCnt := Lib.hid (ask_count x v m hm)
      obtain ⟨op', a', l', nm', t'⟩ := x
      obtain ⟨A', c', y', rfl, -, -, -, hty, -⟩ := hxs
      obtain ⟨m0, m1, m2, m3, m4, m5, m6, m7, m8, m9, m10, rfl, h1c⟩ := hty.elevenS
      have q0 := c1 0 _ rfl
      have q1 := c1 1 _ rfl
      have q2 := c1 2 _ rfl
      have q3 := c1 3 _ rfl
      have q4 := c1 4 _ rfl
      have q5 := c1 5 _ rfl
      have q6 := c1 6 _ rfl
      have q7 := c1 7 _ rfl
      have q8 := c1 8 _ rfl
      have q9 := c1 9 _ rfl
      have q10 := c1 10 _ rfl
      have q11 := c1 11 _ rfl
      have q12 := c1 12 _ rfl
      have q13 := c1 13 _ rfl
      have q14 := c1 14 _ rfl
      simp only [Nat.add_zero] at q0
      have o0 := fun (W : World) (a : Addr) (m : Mode) => run_store Tryz.prog W a m0 m (h1c m0 (by simp))
      have o1 := fun (W : World) (a : Addr) (m : Mode) => run_store Tryz.prog W a m1 m (h1c m1 (by simp))
      have o2 := fun (W : World) (a : Addr) (m : Mode) => run_store Tryz.prog W a m2 m (h1c m2 (by simp))
      have o3 := fun (W : World) (a : Addr) (m : Mode) => run_store Tryz.prog W a m3 m (h1c m3 (by simp))
      have o4 := fun (W : World) (a : Addr) (m : Mode) => run_store Tryz.prog W a m4 m (h1c m4 (by simp))
      have o5 := fun (W : World) (a : Addr) (m : Mode) => run_store Tryz.prog W a m5 m (h1c m5 (by simp))
      have o6 := fun (W : World) (a : Addr) (m : Mode) => run_store Tryz.prog W a m6 m (h1c m6 (by simp))
      have o7 := fun (W : World) (a : Addr) (m : Mode) => run_store Tryz.prog W a m7 m (h1c m7 (by simp))
      have o8 := fun (W : World) (a : Addr) (m : Mode) => run_store Tryz.prog W a m8 m (h1c m8 (by simp))
      have o9 := fun (W : World) (a : Addr) (m : Mode) => run_store Tryz.prog W a m9 m (h1c m9 (by simp))
      have o10 := fun (W : World) (a : Addr) (m : Mode) => run_store Tryz.prog W a m10 m (h1c m10 (by simp))
      clear hp hx c0 c1 hS hty h1c HAsk hb3
      unfold termOf at HC
      generalize hq : askV (.mk op' a' l' nm' t') v m = q at *
      obtain ⟨o, m2'⟩ := q
      cases o with
      | gone ga gw =>
        have HF : Hid (logicA a false (askL l) v n = (.gone ga gw, m2')) := Lib.hid (by rw [HT.out, HDR.out, logicA, hq]; rfl)
        clear hq
        go_wp2_with fail
        refine HC.out.mono ?_
        rintro e w1 ⟨hA2, hH2, rfl⟩
        exact ⟨rfl, AskPost.gone_ HF.out (hA1.trans ((Aside.of_below HB3.out).trans hA2)) hH2⟩
      | val u =>
        have hm2 : m2' ≤ 1048576 := HCnt.out u rfl
        have HU : Hid (logicA a false (askL l) v n = (fun (x : V) (m : Nat) => match x with | .bool b => if b = false then (.val (.bool b), m) else logicA a false ((askL l).drop (k + 1)) v m | _ => (Out.gone a 172, m)) u m2') := Lib.hid (by rw [HT.out, HDR.out, logicA, hq]; rfl)
        clear hq
        by_cases h2 : kindV u = 2
        · obtain ⟨ub, rfl⟩ := kind_is_bool h2
          cases ub
          · have HF : Hid (logicA a false (askL l) v n = (.val (.bool false), m2')) := Lib.hid (by rw [HU.out]; rfl)
            go_wp2_with fail
            refine HC.out.mono ?_
            rintro e w1 ⟨hA2, hH2, uv, rfl, rfl⟩
            have hA3 := hA.trans ((Aside.of_below HB3.out).trans hA2)
            have qe3 := fun (o : Nat) => hA3.cell (p := ⟨w.heap.size, o, none⟩) (by simp) hne
            go_wp2
            go_ret
            exact AskPost.val_ HF.out (HA0.out.trans hA3) hH2 rfl
          · have HT2 : Hid (logicA a false (askL l) v n = logicA a false ((askL l).drop (k + 1)) v m2') := Lib.hid (by rw [HU.out]; rfl)
            go_wp2_with fail
            refine HC.out.mono ?_
            rintro e w1 ⟨hA2, hH2, uv, rfl, rfl⟩
            have hA3 := hA.trans ((Aside.of_below HB3.out).trans hA2)
            have qe3 := fun (o : Nat) => hA3.cell (p := ⟨w.heap.size, o, none⟩) (by simp) hne
            go_wp2
            refine ⟨⟨k + 1, m2', rfl, hlt, hm2, HT2, hA3, hH2⟩, ?_⟩
            simp [intOf]; omega
        · have HF : Hid (logicA a false (askL l) v n = (.gone a 172, m2')) := Lib.hid (by rw [HU.out]; cases u <;> first | rfl | exact absurd rfl h2)
          go_wp2_with fail
          refine HC.out.mono ?_
          rintro e w1 ⟨hA2, hH2, uv, rfl, huv⟩
          have hA3 := hA.trans ((Aside.of_below HB3.out).trans hA2)
          have k0 := fun (W : World) => not_bool huv 20 W h2
          have qe3 := fun (o : Nat) => hA3.cell (p := ⟨w.heap.size, o, none⟩) (by simp) hne
          go_wp2_with fail
          refine (HBad.out _).mono ?_
          rintro e w9 ⟨rfl, hb9⟩
          exact ⟨rfl, AskPost.gone_ HF.out (HA0.out.trans (hA3.trans (Aside.of_below hb9))) (hH2.below hb9 (by have := hA3.size; simp at this; omega))⟩
    · obtain rfl : k = l.length := by omega
      have HF : Hid (logicA a false (askL l) v n = (.val (.bool true), m)) := Lib.hid (by rw [HT.out, askL_end, logicA]; rfl)
      clear HAsk hp
      go_wp2
      go_ret
      exact AskPost.val_ HF.out hA1 hH rfl
end Go.Proofs.YtbemeapjeipjlaaGreatDoor
