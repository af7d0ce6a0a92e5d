/- Walks: query.walk.ask: how it begins; the cases that ask no parts. -/
import Derived.Test.YtbemeapjeipjlaaGreatDoorQL26
set_option linter.unusedVariables false
set_option linter.unusedSimpArgs false
namespace Go.Proofs.YtbemeapjeipjlaaGreatDoor
open Go Go.RowKit
attribute [local go_sem] ta_no_bool ta_yes_bool ta_nil_bool ta_no_int64 ta_yes_int64 ta_nil_int64 ta_no_flt ta_yes_flt ta_nil_flt ta_no_str ta_yes_str ta_nil_str ta_no_byt ta_yes_byt ta_nil_byt ta_no_ref ta_yes_ref ta_nil_ref ta_no_lst ta_yes_lst ta_nil_lst ta_no_dct ta_yes_dct ta_nil_dct ta_no_rec ta_yes_rec ta_nil_rec
theorem Hold.set {w : World} {bw : Nat} {u : Value} (h : Hold w bw 0 u) (v : Value) : Hold (w.setCell ⟨bw, 0, none⟩ v) bw 0 v := ⟨World.cell?_setCell_same w _ _ h.1, by rw [World.frozen?_setCell]; exact h.2⟩
set_option maxRecDepth 100000 in
set_option maxHeartbeats 1000000 in
theorem ask_over (op : ByteArray) (a : Int) (l : List Ex) (nm : ByteArray) (t : Tm) (x : List Value) (v : V) (vv : Value) (n : Nat) (S : Nat → Prop) (w : World) (bw : Nat) (hS : Seen S w bw) (hbw : bw < w.heap.size) (hn : n ≤ 1048576) (hx : RdES w S (.mk op a l nm t) x) (hh : Hold w bw 0 (.int .i64 n)) (ho : 1048576 < n + 1) :
    Calls Tryz.prog 44 #[.pointer (some ⟨bw, 0, none⟩), termOf x, vv] w (AskPost S bw (askV (.mk op a l nm t) v n) w) := by
  obtain ⟨A, c, y, rfl, hops, ha, hns, hty, hll, hp⟩ := hx
  have hy : Eleven y := hty.elevenS
  have HBad := Lib.hid (fun (W : World) => bad_any op a (.slice A l.length c) nm y hy rfl W)
  obtain ⟨n0, n1, n2, n3, n4, n5, n6, n7, n8, n9, n10, rfl, h1c⟩ := hy
  clear h1c
  have hne : w.heap.size ≠ bw := by omega
  have hh1 : Hold (w.setCell ⟨bw, 0, none⟩ (.int .i64 ((n : Int) + 1))) bw 0 (.int .i64 ((n + 1 : Nat) : Int)) := hh.set _
  have hbw0 : bw < (w.setCell ⟨bw, 0, none⟩ (.int .i64 ((n : Int) + 1))).heap.size := by simp; omega
  have hba : Below (w.setCell ⟨bw, 0, none⟩ (.int .i64 ((n : Int) + 1))).heap.size (w.setCell ⟨bw, 0, none⟩ (.int .i64 ((n : Int) + 1))) ((w.setCell ⟨bw, 0, none⟩ (.int .i64 ((n : Int) + 1))).alloc (.cells #[.string op, .int .i64 a, .slice A l.length c, .string nm, n0, n1, n2, n3, n4, n5, n6, n7, n8, n9, n10] 32)) := (Below.refl _ _).alloc (Nat.le_refl _) _
  have HA1 : Hid (Aside bw w ((w.setCell ⟨bw, 0, none⟩ (.int .i64 ((n : Int) + 1))).alloc (.cells #[.string op, .int .i64 a, .slice A l.length c, .string nm, n0, n1, n2, n3, n4, n5, n6, n7, n8, n9, n10] 32))) := Lib.hid ((Aside.set 0 _).trans (Aside.of_below hba))
  have HH1 : Hid (Hold ((w.setCell ⟨bw, 0, none⟩ (.int .i64 ((n : Int) + 1))).alloc (.cells #[.string op, .int .i64 a, .slice A l.length c, .string nm, n0, n1, n2, n3, n4, n5, n6, n7, n8, n9, n10] 32)) bw 0 (.int .i64 ((n + 1 : Nat) : Int))) := Lib.hid (hh1.below hba hbw0)
  have e0 : wrap64 ((n : Int) + 1) = (n : Int) + 1 := by unfold wrap64; omega
  obtain ⟨hc0, hf0⟩ := hh
  have hc1 : (w.setCell ⟨bw, 0, none⟩ (.int .i64 ((n : Int) + 1))).cell? ⟨bw, 0, none⟩ = some (.int .i64 ((n : Int) + 1)) := hh1.1
  have hbw1 : bw < ((w.setCell ⟨bw, 0, none⟩ (.int .i64 ((n : Int) + 1))).alloc (.cells #[.string op, .int .i64 a, .slice A l.length c, .string nm, n0, n1, n2, n3, n4, n5, n6, n7, n8, n9, n10] 32)).heap.size := by simp; omega
  have hS1 : Seen S ((w.setCell ⟨bw, 0, none⟩ (.int .i64 ((n : Int) + 1))).alloc (.cells #[.string op, .int .i64 a, .slice A l.length c, .string nm, n0, n1, n2, n3, n4, n5, n6, n7, n8, n9, n10] 32)) bw := hS.to HA1.out.size
  clear hh1 hba
  have HU : Hid (askV (.mk op a l nm t) v n = (.gone a 2, n + 1)) := Lib.hid (by rw [askV]; unfold stepA; rw [if_pos ho])
  have ho' : (1048576 : Int) < (n : Int) + 1 := by omega
  clear hty hp
  unfold termOf eV at *
  go_enter Tryz.func44, Tryz.ntmps44
  go_wp2
  exact ⟨rfl, AskPost.gone_ HU.out HA1.out HH1.out⟩
set_option maxRecDepth 100000 in
set_option maxHeartbeats 1000000 in
theorem ask_self (a : Int) (l : List Ex) (nm : ByteArray) (t : Tm) : AskC (.mk oSelf a l nm t) := by
  intro x v vv n S w bw hS hbw hn hx hv ht hw hh
  by_cases hlim : 1048576 < n + 1
  · exact ask_over _ _ _ _ _ x v vv n S w bw hS hbw hn hx hh hlim
  obtain ⟨A, c, y, rfl, hops, ha, hns, hty, hll, hp⟩ := hx
  have hy : Eleven y := hty.elevenS
  have HBad := Lib.hid (fun (W : World) => bad_any oSelf a (.slice A l.length c) nm y hy rfl W)
  obtain ⟨n0, n1, n2, n3, n4, n5, n6, n7, n8, n9, n10, rfl, h1c⟩ := hy
  clear h1c
  have hne : w.heap.size ≠ bw := by omega
  have hh1 : Hold (w.setCell ⟨bw, 0, none⟩ (.int .i64 ((n : Int) + 1))) bw 0 (.int .i64 ((n + 1 : Nat) : Int)) := hh.set _
  have hbw0 : bw < (w.setCell ⟨bw, 0, none⟩ (.int .i64 ((n : Int) + 1))).heap.size := by simp; omega
  have hba : Below (w.setCell ⟨bw, 0, none⟩ (.int .i64 ((n : Int) + 1))).heap.size (w.setCell ⟨bw, 0, none⟩ (.int .i64 ((n : Int) + 1))) ((w.setCell ⟨bw, 0, none⟩ (.int .i64 ((n : Int) + 1))).alloc (.cells #[.string oSelf, .int .i64 a, .slice A l.length c, .string nm, n0, n1, n2, n3, n4, n5, n6, n7, n8, n9, n10] 32)) := (Below.refl _ _).alloc (Nat.le_refl _) _
  have HA1 : Hid (Aside bw w ((w.setCell ⟨bw, 0, none⟩ (.int .i64 ((n : Int) + 1))).alloc (.cells #[.string oSelf, .int .i64 a, .slice A l.length c, .string nm, n0, n1, n2, n3, n4, n5, n6, n7, n8, n9, n10] 32))) := Lib.hid ((Aside.set 0 _).trans (Aside.of_below hba))
  have HH1 : Hid (Hold ((w.setCell ⟨bw, 0, none⟩ (.int .i64 ((n : Int) + 1))).alloc (.cells #[.string oSelf, .int .i64 a, .slice A l.length c, .string nm, n0, n1, n2, n3, n4, n5, n6, n7, n8, n9, n10] 32)) bw 0 (.int .i64 ((n + 1 : Nat) : Int))) := Lib.hid (hh1.below hba hbw0)
  have e0 : wrap64 ((n : Int) + 1) = (n : Int) + 1 := by unfold wrap64; omega
  obtain ⟨hc0, hf0⟩ := hh
  have hc1 : (w.setCell ⟨bw, 0, none⟩ (.int .i64 ((n : Int) + 1))).cell? ⟨bw, 0, none⟩ = some (.int .i64 ((n : Int) + 1)) := hh1.1
  have hbw1 : bw < ((w.setCell ⟨bw, 0, none⟩ (.int .i64 ((n : Int) + 1))).alloc (.cells #[.string oSelf, .int .i64 a, .slice A l.length c, .string nm, n0, n1, n2, n3, n4, n5, n6, n7, n8, n9, n10] 32)).heap.size := by simp; omega
  have hS1 : Seen S ((w.setCell ⟨bw, 0, none⟩ (.int .i64 ((n : Int) + 1))).alloc (.cells #[.string oSelf, .int .i64 a, .slice A l.length c, .string nm, n0, n1, n2, n3, n4, n5, n6, n7, n8, n9, n10] 32)) bw := hS.to HA1.out.size
  clear hh1 hba
  have HU : Hid (askV (.mk oSelf a l nm t) v n = (.val v, n + 1)) := Lib.hid (by rw [askV]; unfold stepA; rw [if_neg (by omega), if_neg (by decide), if_pos rfl])
  have ho' : ¬ (1048576 : Int) < (n : Int) + 1 := by omega
  have HV := Lib.hid (hv.aside hS HA1.out)
  clear hty hp hv hw
  unfold termOf eV at *
  go_enter Tryz.func44, Tryz.ntmps44
  go_wp2
  go_ret
  exact AskPost.val_ HU.out HA1.out HH1.out (RdS.more (fun b h => .inl h) _ _ HV.out)
set_option maxRecDepth 100000 in
set_option maxHeartbeats 1000000 in
theorem ask_value (a : Int) (l : List Ex) (nm : ByteArray) (t : Tm) : AskC (.mk oValue a l nm t) := by
  intro x v vv n S w bw hS hbw hn hx hv ht hw hh
  by_cases hlim : 1048576 < n + 1
  · exact ask_over _ _ _ _ _ x v vv n S w bw hS hbw hn hx hh hlim
  obtain ⟨A, c, y, rfl, hops, ha, hns, hty, hll, hp⟩ := hx
  have HOf := Lib.hid (fun (W : World) (hW : Aside bw w W) => of_any t y W (RdTS.more (fun b hb => (hS.to hW.size b hb).1) _ _ (RdTS.keep (fun p hp => hW.cell (hS _ hp).1 (hS _ hp).2) _ _ hty)))
  unfold OfPost at HOf
  have hy : Eleven y := hty.elevenS
  have HBad := Lib.hid (fun (W : World) => bad_any oValue a (.slice A l.length c) nm y hy rfl W)
  obtain ⟨n0, n1, n2, n3, n4, n5, n6, n7, n8, n9, n10, rfl, h1c⟩ := hy
  clear h1c
  have hne : w.heap.size ≠ bw := by omega
  have hh1 : Hold (w.setCell ⟨bw, 0, none⟩ (.int .i64 ((n : Int) + 1))) bw 0 (.int .i64 ((n + 1 : Nat) : Int)) := hh.set _
  have hbw0 : bw < (w.setCell ⟨bw, 0, none⟩ (.int .i64 ((n : Int) + 1))).heap.size := by simp; omega
  have hba : Below (w.setCell ⟨bw, 0, none⟩ (.int .i64 ((n : Int) + 1))).heap.size (w.setCell ⟨bw, 0, none⟩ (.int .i64 ((n : Int) + 1))) ((w.setCell ⟨bw, 0, none⟩ (.int .i64 ((n : Int) + 1))).alloc (.cells #[.string oValue, .int .i64 a, .slice A l.length c, .string nm, n0, n1, n2, n3, n4, n5, n6, n7, n8, n9, n10] 32)) := (Below.refl _ _).alloc (Nat.le_refl _) _
  have HA1 : Hid (Aside bw w ((w.setCell ⟨bw, 0, none⟩ (.int .i64 ((n : Int) + 1))).alloc (.cells #[.string oValue, .int .i64 a, .slice A l.length c, .string nm, n0, n1, n2, n3, n4, n5, n6, n7, n8, n9, n10] 32))) := Lib.hid ((Aside.set 0 _).trans (Aside.of_below hba))
  have HH1 : Hid (Hold ((w.setCell ⟨bw, 0, none⟩ (.int .i64 ((n : Int) + 1))).alloc (.cells #[.string oValue, .int .i64 a, .slice A l.length c, .string nm, n0, n1, n2, n3, n4, n5, n6, n7, n8, n9, n10] 32)) bw 0 (.int .i64 ((n + 1 : Nat) : Int))) := Lib.hid (hh1.below hba hbw0)
  have e0 : wrap64 ((n : Int) + 1) = (n : Int) + 1 := by unfold wrap64; omega
  obtain ⟨hc0, hf0⟩ := hh
  have hc1 : (w.setCell ⟨bw, 0, none⟩ (.int .i64 ((n : Int) + 1))).cell? ⟨bw, 0, none⟩ = some (.int .i64 ((n : Int) + 1)) := hh1.1
  have hbw1 : bw < ((w.setCell ⟨bw, 0, none⟩ (.int .i64 ((n : Int) + 1))).alloc (.cells #[.string oValue, .int .i64 a, .slice A l.length c, .string nm, n0, n1, n2, n3, n4, n5, n6, n7, n8, n9, n10] 32)).heap.size := by simp; omega
  have hS1 : Seen S ((w.setCell ⟨bw, 0, none⟩ (.int .i64 ((n : Int) + 1))).alloc (.cells #[.string oValue, .int .i64 a, .slice A l.length c, .string nm, n0, n1, n2, n3, n4, n5, n6, n7, n8, n9, n10] 32)) bw := hS.to HA1.out.size
  clear hh1 hba
  have HU : Hid (askV (.mk oValue a l nm t) v n = (.val (literalV t), n + 1)) := Lib.hid (by rw [askV]; unfold stepA; rw [if_neg (by omega), if_pos rfl])
  have ho' : ¬ (1048576 : Int) < (n : Int) + 1 := by omega
  clear hty hp hv hw
  unfold termOf eV at *
  go_enter Tryz.func44, Tryz.ntmps44
  go_wp2_with fail
  refine (HOf.out _ HA1.out).mono ?_
  rintro e w9 ⟨u, rfl, hb9, hu1, hu2⟩
  go_wp2
  go_ret
  refine AskPost.val_ HU.out (HA1.out.trans (Aside.of_below hb9)) (HH1.out.below hb9 hbw1) ?_
  unfold literalV
  by_cases hz : (checkV (builtV t)).2 = 0
  · rw [if_pos hz]; exact RdS.more (fun b h => .inr ⟨Nat.le_trans HA1.out.size h.1, h.2⟩) _ _ (hu1 hz)
  · rw [if_neg hz]; exact hu2 hz
set_option maxRecDepth 100000 in
set_option maxHeartbeats 1000000 in
theorem ask_field (a : Int) (l : List Ex) (nm : ByteArray) (t : Tm) : AskC (.mk oField a l nm t) := by
  intro x v vv n S w bw hS hbw hn hx hv ht hw hh
  by_cases hlim : 1048576 < n + 1
  · exact ask_over _ _ _ _ _ x v vv n S w bw hS hbw hn hx hh hlim
  obtain ⟨A, c, y, rfl, hops, ha, hns, hty, hll, hp⟩ := hx
  have hy : Eleven y := hty.elevenS
  have HBad := Lib.hid (fun (W : World) => bad_any oField a (.slice A l.length c) nm y hy rfl W)
  have HFi := Lib.hid (fun (W : World) (hW : Aside bw w W) => field_any oField a (.slice A l.length c) nm y hy rfl v vv nm S W (fun b h => (hS.to hW.size b h).1) (tame_kind ht) (hv.aside hS hW))
  obtain ⟨n0, n1, n2, n3, n4, n5, n6, n7, n8, n9, n10, rfl, h1c⟩ := hy
  clear h1c
  have hne : w.heap.size ≠ bw := by omega
  have hh1 : Hold (w.setCell ⟨bw, 0, none⟩ (.int .i64 ((n : Int) + 1))) bw 0 (.int .i64 ((n + 1 : Nat) : Int)) := hh.set _
  have hbw0 : bw < (w.setCell ⟨bw, 0, none⟩ (.int .i64 ((n : Int) + 1))).heap.size := by simp; omega
  have hba : Below (w.setCell ⟨bw, 0, none⟩ (.int .i64 ((n : Int) + 1))).heap.size (w.setCell ⟨bw, 0, none⟩ (.int .i64 ((n : Int) + 1))) ((w.setCell ⟨bw, 0, none⟩ (.int .i64 ((n : Int) + 1))).alloc (.cells #[.string oField, .int .i64 a, .slice A l.length c, .string nm, n0, n1, n2, n3, n4, n5, n6, n7, n8, n9, n10] 32)) := (Below.refl _ _).alloc (Nat.le_refl _) _
  have HA1 : Hid (Aside bw w ((w.setCell ⟨bw, 0, none⟩ (.int .i64 ((n : Int) + 1))).alloc (.cells #[.string oField, .int .i64 a, .slice A l.length c, .string nm, n0, n1, n2, n3, n4, n5, n6, n7, n8, n9, n10] 32))) := Lib.hid ((Aside.set 0 _).trans (Aside.of_below hba))
  have HH1 : Hid (Hold ((w.setCell ⟨bw, 0, none⟩ (.int .i64 ((n : Int) + 1))).alloc (.cells #[.string oField, .int .i64 a, .slice A l.length c, .string nm, n0, n1, n2, n3, n4, n5, n6, n7, n8, n9, n10] 32)) bw 0 (.int .i64 ((n + 1 : Nat) : Int))) := Lib.hid (hh1.below hba hbw0)
  have e0 : wrap64 ((n : Int) + 1) = (n : Int) + 1 := by unfold wrap64; omega
  obtain ⟨hc0, hf0⟩ := hh
  have hc1 : (w.setCell ⟨bw, 0, none⟩ (.int .i64 ((n : Int) + 1))).cell? ⟨bw, 0, none⟩ = some (.int .i64 ((n : Int) + 1)) := hh1.1
  have hbw1 : bw < ((w.setCell ⟨bw, 0, none⟩ (.int .i64 ((n : Int) + 1))).alloc (.cells #[.string oField, .int .i64 a, .slice A l.length c, .string nm, n0, n1, n2, n3, n4, n5, n6, n7, n8, n9, n10] 32)).heap.size := by simp; omega
  have hS1 : Seen S ((w.setCell ⟨bw, 0, none⟩ (.int .i64 ((n : Int) + 1))).alloc (.cells #[.string oField, .int .i64 a, .slice A l.length c, .string nm, n0, n1, n2, n3, n4, n5, n6, n7, n8, n9, n10] 32)) bw := hS.to HA1.out.size
  clear hh1 hba
  have HU : Hid (askV (.mk oField a l nm t) v n = (fieldV a v nm, n + 1)) := Lib.hid (by rw [askV]; unfold stepA; rw [if_neg (by omega), if_neg (by decide), if_neg (by decide), if_pos rfl])
  have ho' : ¬ (1048576 : Int) < (n : Int) + 1 := by omega
  clear hty hp hv hw
  unfold termOf eV at *
  go_enter Tryz.func44, Tryz.ntmps44
  go_wp2_with fail
  refine (HFi.out _ HA1.out).mono ?_
  rintro e w9 hr9
  have hP := AskPost.out (n := n + 1) (S := S) hr9 HA1.out (fun b h => .inl h) hbw1 HH1.out
  replace hP := AskPost.eq_ HU.out hP
  cases hg : fieldV a v nm with
  | val t9 =>
    rw [hg] at hr9
    obtain ⟨hb9, v9, rfl, hv9⟩ := hr9
    go_wp2
    go_ret
    exact hP
  | gone gb gw =>
    rw [hg] at hr9
    obtain ⟨hb9, rfl⟩ := hr9
    exact ⟨rfl, hP⟩
set_option maxRecDepth 100000 in
set_option maxHeartbeats 1000000 in
theorem ask_or (a : Int) (l : List Ex) (nm : ByteArray) (t : Tm) (ih : ∀ x ∈ l, AskC x) : AskC (.mk oOr a l nm t) := by
  intro x v vv n S w bw hS hbw hn hx hv ht hw hh
  by_cases hlim : 1048576 < n + 1
  · exact ask_over _ _ _ _ _ x v vv n S w bw hS hbw hn hx hh hlim
  obtain ⟨A, c, y, rfl, hops, ha, hns, hty, hll, hp⟩ := hx
  have hy : Eleven y := hty.elevenS
  have HBad := Lib.hid (fun (W : World) => bad_any oOr a (.slice A l.length c) nm y hy rfl W)
  have HLg := Lib.hid (fun (W : World) (hW : Aside bw w W) (hH : Hold W bw 0 (.int .i64 ((n + 1 : Nat) : Int))) => logic_or a l A c nm y hy ih v vv (n + 1) S W bw (hS.to hW.size) (Nat.lt_of_lt_of_le hbw hW.size) (by omega) hll (PartsS.asideS hp hS hW) (hv.aside hS hW) ht (hw.aside hS hW) hH)
  obtain ⟨n0, n1, n2, n3, n4, n5, n6, n7, n8, n9, n10, rfl, h1c⟩ := hy
  clear h1c
  have hne : w.heap.size ≠ bw := by omega
  have hh1 : Hold (w.setCell ⟨bw, 0, none⟩ (.int .i64 ((n : Int) + 1))) bw 0 (.int .i64 ((n + 1 : Nat) : Int)) := hh.set _
  have hbw0 : bw < (w.setCell ⟨bw, 0, none⟩ (.int .i64 ((n : Int) + 1))).heap.size := by simp; omega
  have hba : Below (w.setCell ⟨bw, 0, none⟩ (.int .i64 ((n : Int) + 1))).heap.size (w.setCell ⟨bw, 0, none⟩ (.int .i64 ((n : Int) + 1))) ((w.setCell ⟨bw, 0, none⟩ (.int .i64 ((n : Int) + 1))).alloc (.cells #[.string oOr, .int .i64 a, .slice A l.length c, .string nm, n0, n1, n2, n3, n4, n5, n6, n7, n8, n9, n10] 32)) := (Below.refl _ _).alloc (Nat.le_refl _) _
  have HA1 : Hid (Aside bw w ((w.setCell ⟨bw, 0, none⟩ (.int .i64 ((n : Int) + 1))).alloc (.cells #[.string oOr, .int .i64 a, .slice A l.length c, .string nm, n0, n1, n2, n3, n4, n5, n6, n7, n8, n9, n10] 32))) := Lib.hid ((Aside.set 0 _).trans (Aside.of_below hba))
  have HH1 : Hid (Hold ((w.setCell ⟨bw, 0, none⟩ (.int .i64 ((n : Int) + 1))).alloc (.cells #[.string oOr, .int .i64 a, .slice A l.length c, .string nm, n0, n1, n2, n3, n4, n5, n6, n7, n8, n9, n10] 32)) bw 0 (.int .i64 ((n + 1 : Nat) : Int))) := Lib.hid (hh1.below hba hbw0)
  have e0 : wrap64 ((n : Int) + 1) = (n : Int) + 1 := by unfold wrap64; omega
  obtain ⟨hc0, hf0⟩ := hh
  have hc1 : (w.setCell ⟨bw, 0, none⟩ (.int .i64 ((n : Int) + 1))).cell? ⟨bw, 0, none⟩ = some (.int .i64 ((n : Int) + 1)) := hh1.1
  have hbw1 : bw < ((w.setCell ⟨bw, 0, none⟩ (.int .i64 ((n : Int) + 1))).alloc (.cells #[.string oOr, .int .i64 a, .slice A l.length c, .string nm, n0, n1, n2, n3, n4, n5, n6, n7, n8, n9, n10] 32)).heap.size := by simp; omega
  have hS1 : Seen S ((w.setCell ⟨bw, 0, none⟩ (.int .i64 ((n : Int) + 1))).alloc (.cells #[.string oOr, .int .i64 a, .slice A l.length c, .string nm, n0, n1, n2, n3, n4, n5, n6, n7, n8, n9, n10] 32)) bw := hS.to HA1.out.size
  clear hh1 hba
  have HU : Hid (askV (.mk oOr a l nm t) v n = logicA a true (askL l) v (n + 1)) := Lib.hid (by rw [askV]; unfold stepA; rw [if_neg (by omega), if_neg (by decide), if_neg (by decide), if_neg (by decide), if_neg (by decide), if_pos rfl])
  have ho' : ¬ (1048576 : Int) < (n : Int) + 1 := by omega
  clear hty hp hv hw ih
  unfold termOf eV at *
  go_enter Tryz.func44, Tryz.ntmps44
  go_wp2_with fail
  refine (HLg.out _ HA1.out HH1.out).mono ?_
  rintro e w9 hr9
  have hP := AskPost.eq_ HU.out (AskPost.chain hr9 HA1.out (fun b h => .inl h))
  obtain ⟨hA9, hH9, h9⟩ := hr9
  generalize logicA a true (askL l) v (n + 1) = r9 at *
  obtain ⟨o9, m9⟩ := r9
  cases o9 with
  | val t9 =>
    obtain ⟨v9, rfl, hv9⟩ := h9
    go_wp2
    go_ret
    exact hP
  | gone gb gw =>
    obtain rfl := h9
    exact ⟨rfl, hP⟩
set_option maxRecDepth 100000 in
set_option maxHeartbeats 1000000 in
theorem ask_and (a : Int) (l : List Ex) (nm : ByteArray) (t : Tm) (ih : ∀ x ∈ l, AskC x) : AskC (.mk oAnd a l nm t) := by
  intro x v vv n S w bw hS hbw hn hx hv ht hw hh
  by_cases hlim : 1048576 < n + 1
  · exact ask_over _ _ _ _ _ x v vv n S w bw hS hbw hn hx hh hlim
  obtain ⟨A, c, y, rfl, hops, ha, hns, hty, hll, hp⟩ := hx
  have hy : Eleven y := hty.elevenS
  have HBad := Lib.hid (fun (W : World) => bad_any oAnd a (.slice A l.length c) nm y hy rfl W)
  have HLg := Lib.hid (fun (W : World) (hW : Aside bw w W) (hH : Hold W bw 0 (.int .i64 ((n + 1 : Nat) : Int))) => logic_and a l A c nm y hy ih v vv (n + 1) S W bw (hS.to hW.size) (Nat.lt_of_lt_of_le hbw hW.size) (by omega) hll (PartsS.asideS hp hS hW) (hv.aside hS hW) ht (hw.aside hS hW) hH)
  obtain ⟨n0, n1, n2, n3, n4, n5, n6, n7, n8, n9, n10, rfl, h1c⟩ := hy
  clear h1c
  have hne : w.heap.size ≠ bw := by omega
  have hh1 : Hold (w.setCell ⟨bw, 0, none⟩ (.int .i64 ((n : Int) + 1))) bw 0 (.int .i64 ((n + 1 : Nat) : Int)) := hh.set _
  have hbw0 : bw < (w.setCell ⟨bw, 0, none⟩ (.int .i64 ((n : Int) + 1))).heap.size := by simp; omega
  have hba : Below (w.setCell ⟨bw, 0, none⟩ (.int .i64 ((n : Int) + 1))).heap.size (w.setCell ⟨bw, 0, none⟩ (.int .i64 ((n : Int) + 1))) ((w.setCell ⟨bw, 0, none⟩ (.int .i64 ((n : Int) + 1))).alloc (.cells #[.string oAnd, .int .i64 a, .slice A l.length c, .string nm, n0, n1, n2, n3, n4, n5, n6, n7, n8, n9, n10] 32)) := (Below.refl _ _).alloc (Nat.le_refl _) _
  have HA1 : Hid (Aside bw w ((w.setCell ⟨bw, 0, none⟩ (.int .i64 ((n : Int) + 1))).alloc (.cells #[.string oAnd, .int .i64 a, .slice A l.length c, .string nm, n0, n1, n2, n3, n4, n5, n6, n7, n8, n9, n10] 32))) := Lib.hid ((Aside.set 0 _).trans (Aside.of_below hba))
  have HH1 : Hid (Hold ((w.setCell ⟨bw, 0, none⟩ (.int .i64 ((n : Int) + 1))).alloc (.cells #[.string oAnd, .int .i64 a, .slice A l.length c, .string nm, n0, n1, n2, n3, n4, n5, n6, n7, n8, n9, n10] 32)) bw 0 (.int .i64 ((n + 1 : Nat) : Int))) := Lib.hid (hh1.below hba hbw0)
  have e0 : wrap64 ((n : Int) + 1) = (n : Int) + 1 := by unfold wrap64; omega
  obtain ⟨hc0, hf0⟩ := hh
  have hc1 : (w.setCell ⟨bw, 0, none⟩ (.int .i64 ((n : Int) + 1))).cell? ⟨bw, 0, none⟩ = some (.int .i64 ((n : Int) + 1)) := hh1.1
  have hbw1 : bw < ((w.setCell ⟨bw, 0, none⟩ (.int .i64 ((n : Int) + 1))).alloc (.cells #[.string oAnd, .int .i64 a, .slice A l.length c, .string nm, n0, n1, n2, n3, n4, n5, n6, n7, n8, n9, n10] 32)).heap.size := by simp; omega
  have hS1 : Seen S ((w.setCell ⟨bw, 0, none⟩ (.int .i64 ((n : Int) + 1))).alloc (.cells #[.string oAnd, .int .i64 a, .slice A l.length c, .string nm, n0, n1, n2, n3, n4, n5, n6, n7, n8, n9, n10] 32)) bw := hS.to HA1.out.size
  clear hh1 hba
  have HU : Hid (askV (.mk oAnd a l nm t) v n = logicA a false (askL l) v (n + 1)) := Lib.hid (by rw [askV]; unfold stepA; rw [if_neg (by omega), if_neg (by decide), if_neg (by decide), if_neg (by decide), if_neg (by decide), if_neg (by decide), if_pos rfl])
  have ho' : ¬ (1048576 : Int) < (n : Int) + 1 := by omega
  clear hty hp hv hw ih
  unfold termOf eV at *
  go_enter Tryz.func44, Tryz.ntmps44
  go_wp2_with fail
  refine (HLg.out _ HA1.out HH1.out).mono ?_
  rintro e w9 hr9
  have hP := AskPost.eq_ HU.out (AskPost.chain hr9 HA1.out (fun b h => .inl h))
  obtain ⟨hA9, hH9, h9⟩ := hr9
  generalize logicA a false (askL l) v (n + 1) = r9 at *
  obtain ⟨o9, m9⟩ := r9
  cases o9 with
  | val t9 =>
    obtain ⟨v9, rfl, hv9⟩ := h9
    go_wp2
    go_ret
    exact hP
  | gone gb gw =>
    obtain rfl := h9
    exact ⟨rfl, hP⟩
end Go.Proofs.YtbemeapjeipjlaaGreatDoor
