/- Walks: query.walk.ask of any expression that can be. -/
import Derived.Test.YtbemeapjeipjlaaGreatDoorQL27
import Derived.Test.YtbemeapjeipjlaaGreatDoorQL28
import Derived.Test.YtbemeapjeipjlaaGreatDoorQL29
import Derived.Test.YtbemeapjeipjlaaGreatDoorQL32
import Derived.Test.YtbemeapjeipjlaaGreatDoorQL33
import Derived.Test.YtbemeapjeipjlaaGreatDoorQL34
import Derived.Test.YtbemeapjeipjlaaGreatDoorQL35
import Derived.Test.YtbemeapjeipjlaaGreatDoorQL36
import Derived.Defers
import Derived.Recover
import Derived.Test.YtbemeapjeipjlaaGreatDoorQL26
set_option linter.unusedVariables false
set_option linter.unusedSimpArgs false
namespace Go.Proofs.YtbemeapjeipjlaaGreatDoor
open Go Go.RowKit
attribute [local go_sem] ta_no_bool ta_yes_bool ta_nil_bool ta_no_int64 ta_yes_int64 ta_nil_int64 ta_no_flt ta_yes_flt ta_nil_flt ta_no_str ta_yes_str ta_nil_str ta_no_byt ta_yes_byt ta_nil_byt ta_no_ref ta_yes_ref ta_nil_ref ta_no_lst ta_yes_lst ta_nil_lst ta_no_dct ta_yes_dct ta_nil_dct ta_no_rec ta_yes_rec ta_nil_rec
def CallC (l : List Ex) (nm : ByteArray) : Prop := ∀ (a : Int) (A : Option Addr) (c : Nat) (y : List Value) (v : V) (vv : Value) (n : Nat) (S : Nat → Prop) (w : World) (bw : Nat), Eleven y → Seen S w bw → bw < w.heap.size → n ≤ 1048576 → PartsS w S A l → RdS w S v vv → tameV v → Words w S 1 kindWords → Hold w bw 0 (.int .i64 n) →
  Calls Tryz.prog 66 #[.pointer (some ⟨bw, 0, none⟩), eV oCall a (.slice A l.length c) nm y, vv] w (AskPost S bw (callA nm a (askL l) v n) w)
set_option maxRecDepth 100000 in
set_option maxHeartbeats 1000000 in
theorem ask_call (a : Int) (l : List Ex) (nm : ByteArray) (t : Tm) (hcall : CallC l nm) : AskC (.mk oCall a l nm t) := by
  intro x v vv n S w bw hS hbw hn hx hv ht hw hh
  by_cases hlim : 1048576 < n + 1
  · exact ask_over _ _ _ _ _ x v vv n S w bw hS hbw hn hx hh hlim
  obtain ⟨A, c, y, rfl, hops, ha, hns, hty, hll, hp⟩ := hx
  have hy : Eleven y := hty.elevenS
  have HBad := Lib.hid (fun (W : World) => bad_any oCall a (.slice A l.length c) nm y hy rfl W)
  have HCl := Lib.hid (fun (W : World) (hW : Aside bw w W) (hH : Hold W bw 0 (.int .i64 ((n + 1 : Nat) : Int))) => hcall a A c y v vv (n + 1) S W bw hy (hS.to hW.size) (Nat.lt_of_lt_of_le hbw hW.size) (by omega) (PartsS.asideS hp hS hW) (hv.aside hS hW) ht (hw.aside hS hW) hH)
  obtain ⟨n0, n1, n2, n3, n4, n5, n6, n7, n8, n9, n10, rfl, h1c⟩ := hy
  clear h1c
  have hne : w.heap.size ≠ bw := by omega
  have hh1 : Hold (w.setCell ⟨bw, 0, none⟩ (.int .i64 ((n : Int) + 1))) bw 0 (.int .i64 ((n + 1 : Nat) : Int)) := hh.set _
  have hbw0 : bw < (w.setCell ⟨bw, 0, none⟩ (.int .i64 ((n : Int) + 1))).heap.size := by simp; omega
  have hba : Below (w.setCell ⟨bw, 0, none⟩ (.int .i64 ((n : Int) + 1))).heap.size (w.setCell ⟨bw, 0, none⟩ (.int .i64 ((n : Int) + 1))) ((w.setCell ⟨bw, 0, none⟩ (.int .i64 ((n : Int) + 1))).alloc (.cells #[.string oCall, .int .i64 a, .slice A l.length c, .string nm, n0, n1, n2, n3, n4, n5, n6, n7, n8, n9, n10] 32)) := (Below.refl _ _).alloc (Nat.le_refl _) _
  have HA1 : Hid (Aside bw w ((w.setCell ⟨bw, 0, none⟩ (.int .i64 ((n : Int) + 1))).alloc (.cells #[.string oCall, .int .i64 a, .slice A l.length c, .string nm, n0, n1, n2, n3, n4, n5, n6, n7, n8, n9, n10] 32))) := Lib.hid ((Aside.set 0 _).trans (Aside.of_below hba))
  have HH1 : Hid (Hold ((w.setCell ⟨bw, 0, none⟩ (.int .i64 ((n : Int) + 1))).alloc (.cells #[.string oCall, .int .i64 a, .slice A l.length c, .string nm, n0, n1, n2, n3, n4, n5, n6, n7, n8, n9, n10] 32)) bw 0 (.int .i64 ((n + 1 : Nat) : Int))) := Lib.hid (hh1.below hba hbw0)
  have e0 : wrap64 ((n : Int) + 1) = (n : Int) + 1 := by unfold wrap64; omega
  obtain ⟨hc0, hf0⟩ := hh
  have hc1 : (w.setCell ⟨bw, 0, none⟩ (.int .i64 ((n : Int) + 1))).cell? ⟨bw, 0, none⟩ = some (.int .i64 ((n : Int) + 1)) := hh1.1
  have hbw1 : bw < ((w.setCell ⟨bw, 0, none⟩ (.int .i64 ((n : Int) + 1))).alloc (.cells #[.string oCall, .int .i64 a, .slice A l.length c, .string nm, n0, n1, n2, n3, n4, n5, n6, n7, n8, n9, n10] 32)).heap.size := by simp; omega
  have hS1 : Seen S ((w.setCell ⟨bw, 0, none⟩ (.int .i64 ((n : Int) + 1))).alloc (.cells #[.string oCall, .int .i64 a, .slice A l.length c, .string nm, n0, n1, n2, n3, n4, n5, n6, n7, n8, n9, n10] 32)) bw := hS.to HA1.out.size
  clear hh1 hba
  have HU : Hid (askV (.mk oCall a l nm t) v n = callA nm a (askL l) v (n + 1)) := Lib.hid (by rw [askV]; unfold stepA; rw [if_neg (by omega), if_neg (by decide), if_neg (by decide), if_neg (by decide), if_neg (by decide), if_neg (by decide), if_neg (by decide), if_neg (by decide), if_neg (by decide), if_neg (by decide), if_neg (by decide), if_pos rfl])
  have ho' : ¬ (1048576 : Int) < (n : Int) + 1 := by omega
  clear hcall hp hv hw hty
  unfold termOf eV at *
  go_enter Tryz.func44, Tryz.ntmps44
  go_wp2_with fail
  refine (HCl.out _ HA1.out HH1.out).mono ?_
  rintro e w9 hr9
  have hP := AskPost.eq_ HU.out (AskPost.chain hr9 HA1.out (fun b h => .inl h))
  obtain ⟨hA9, hH9, h9⟩ := hr9
  generalize callA nm a (askL l) v (n + 1) = r9 at *
  obtain ⟨o9, m9⟩ := r9
  cases o9 with
  | val t9 =>
    obtain ⟨v9, rfl, hv9⟩ := h9
    go_wp2
    go_ret
    exact hP
  | gone gb gw =>
    obtain rfl := h9
    exact ⟨rfl, hP⟩
theorem call_one {p0 : Ex} {nm : ByteArray} (ih0 : AskC p0) (h : nm ∈ [gLen, gKind, gKeys, gFirst, gLast, gSum, gLeast, gMost]) : CallC [p0] nm := by
  intro a A c y v vv n S w bw hy hS hbw hn hp hv ht hw hh
  simp only [List.mem_cons, List.mem_nil_iff, or_false] at h
  rcases h with rfl | rfl | rfl | rfl | rfl | rfl | rfl | rfl
  · exact call_len a p0 A c y hy ih0 v vv n S w bw hS hbw hn hp hv ht hw hh
  · exact call_kind a p0 A c y hy ih0 v vv n S w bw hS hbw hn hp hv ht hw hh
  · exact call_keys a p0 A c y hy ih0 v vv n S w bw hS hbw hn hp hv ht hw hh
  · exact call_first a p0 A c y hy ih0 v vv n S w bw hS hbw hn hp hv ht hw hh
  · exact call_last a p0 A c y hy ih0 v vv n S w bw hS hbw hn hp hv ht hw hh
  · exact call_sum a p0 A c y hy ih0 v vv n S w bw hS hbw hn hp hv ht hw hh
  · exact call_least a p0 A c y hy ih0 v vv n S w bw hS hbw hn hp hv ht hw hh
  · exact call_most a p0 A c y hy ih0 v vv n S w bw hS hbw hn hp hv ht hw hh
theorem call_two {p0 p1 : Ex} {nm : ByteArray} (ih0 : AskC p0) (ih1 : AskC p1) (h : nm ∈ [gHas, gAny, gAll, gMap, gPick]) : CallC [p0, p1] nm := by
  intro a A c y v vv n S w bw hy hS hbw hn hp hv ht hw hh
  simp only [List.mem_cons, List.mem_nil_iff, or_false] at h
  rcases h with rfl | rfl | rfl | rfl | rfl
  · exact call_has a p0 p1 A c y hy ih0 ih1 v vv n S w bw hS hbw hn hp hv ht hw hh
  · exact call_any a p0 p1 A c y hy ih0 ih1 v vv n S w bw hS hbw hn hp hv ht hw hh
  · exact call_all a p0 p1 A c y hy ih0 ih1 v vv n S w bw hS hbw hn hp hv ht hw hh
  · exact call_map a p0 p1 A c y hy ih0 ih1 v vv n S w bw hS hbw hn hp hv ht hw hh
  · exact call_pick a p0 p1 A c y hy ih0 ih1 v vv n S w bw hS hbw hn hp hv ht hw hh
/- What an expression may be, by its word, its name and its parts. -/
def opOK (op nm : ByteArray) (l : List Ex) : Prop :=
  op ∈ [oValue, oSelf, oField, oOr, oAnd, oList] ∨ (op ∈ [oNot, oDot, oNeg, oIs] ∧ l.length = 1) ∨
  (op = oCall ∧ ((l.length = 1 ∧ nm ∈ [gLen, gKind, gKeys, gFirst, gLast, gSum, gLeast, gMost]) ∨ (l.length = 2 ∧ nm ∈ [gHas, gAny, gAll, gMap, gPick]))) ∨ (op ∈ [oAt, oIn, oAdd, oSub, oMul, oDiv, oRem, oEq, oNe, oLt, oGt, oLe, oGe] ∧ l.length = 2)
mutual
def canE : Ex → Prop
  | .mk op _ l nm _ => opOK op nm l ∧ canEL l
def canEL : List Ex → Prop
  | [] => True
  | x :: r => canE x ∧ canEL r
end
theorem canEL_iff {l : List Ex} : canEL l ↔ ∀ x ∈ l, canE x := by
  induction l with
  | nil => simp [canEL]
  | cons x r ih => simp [canEL, ih]
theorem two_of {l : List Ex} (h : l.length = 2) : ∃ a b, l = [a, b] := by
  match l, h with
  | [a, b], _ => exact ⟨a, b, rfl⟩
theorem ask_any (e : Ex) : canE e → AskC e := by
  induction e using Ex.ind with
  | h op a l nm t ih =>
    rintro ⟨h, hl⟩
    have ih' : ∀ x ∈ l, AskC x := fun x hx => ih x hx (canEL_iff.1 hl x hx)
    rcases h with h | ⟨h, h1⟩ | ⟨rfl, ⟨h1, h⟩ | ⟨h1, h⟩⟩ | ⟨h, h1⟩
    · simp only [List.mem_cons, List.mem_nil_iff, or_false] at h
      rcases h with rfl | rfl | rfl | rfl | rfl | rfl
      · exact ask_value a l nm t
      · exact ask_self a l nm t
      · exact ask_field a l nm t
      · exact ask_or a l nm t ih'
      · exact ask_and a l nm t ih'
      · exact ask_list a l nm t ih'
    · obtain ⟨p0, rfl⟩ := List.length_eq_one_iff.1 h1
      have i0 := ih' p0 (by simp)
      simp only [List.mem_cons, List.mem_nil_iff, or_false] at h
      rcases h with rfl | rfl | rfl | rfl
      · exact ask_not a p0 nm t i0
      · exact ask_dot a p0 nm t i0
      · exact ask_neg a p0 nm t i0
      · exact ask_is a p0 nm t i0
    · obtain ⟨p0, rfl⟩ := List.length_eq_one_iff.1 h1
      exact ask_call a [p0] nm t (call_one (ih' p0 (by simp)) h)
    · obtain ⟨p0, p1, rfl⟩ := two_of h1
      exact ask_call a [p0, p1] nm t (call_two (ih' p0 (by simp)) (ih' p1 (by simp)) h)
    · obtain ⟨p0, p1, rfl⟩ := two_of h1
      have i0 := ih' p0 (by simp)
      have i1 := ih' p1 (by simp)
      simp only [List.mem_cons, List.mem_nil_iff, or_false] at h
      rcases h with rfl | rfl | rfl | rfl | rfl | rfl | rfl | rfl | rfl | rfl | rfl | rfl | rfl
      · exact ask_pAt a p0 p1 nm t i0 i1
      · exact ask_pIn a p0 p1 nm t i0 i1
      · exact ask_pAdd a p0 p1 nm t i0 i1
      · exact ask_pSub a p0 p1 nm t i0 i1
      · exact ask_pMul a p0 p1 nm t i0 i1
      · exact ask_pDiv a p0 p1 nm t i0 i1
      · exact ask_pRem a p0 p1 nm t i0 i1
      · exact ask_pEq a p0 p1 nm t i0 i1
      · exact ask_pNe a p0 p1 nm t i0 i1
      · exact ask_pLt a p0 p1 nm t i0 i1
      · exact ask_pGt a p0 p1 nm t i0 i1
      · exact ask_pLe a p0 p1 nm t i0 i1
      · exact ask_pGe a p0 p1 nm t i0 i1
end Go.Proofs.YtbemeapjeipjlaaGreatDoor
/- Walks: what query.eval defers. -/
namespace Go.Proofs.YtbemeapjeipjlaaGreatDoor
open Go Go.RowKit
theorem ta_yes_fault (w : World) (x : Value) : (Instr.typeAssert (.iface 97 x) 20 97 true).run Tryz.prog w = .ok (.tuple #[x, .bool true]) w := run_ta_yes w Tryz.underlying97 (fun _ h => by cases h)
set_option maxRecDepth 100000 in
set_option maxHeartbeats 1000000 in
theorem catch_idle (p0 p1 p2 : Addr) (w : World) :
    CallsD Tryz.prog 43 #[.pointer (some p0), .pointer (some p1), .pointer (some p2)] .returning w fun e u' w' => e = .returned (.tuple #[]) ∧ u' = .returning ∧ w' = w := by
  refine callsD_of_wpS Tryz.func43 rfl fun c₀ cs hu => ?_
  apply wpS_seq
  apply wpS_region
  simp [wpOpsS, go_sem, recoverD, hu, Tryz.ntmps43, Exit.thenS]
  refine wpS_of_wp ?_
  go_wp2
  cases c₀
  simp_all [bodyPostS, results, Tryz.results43]
set_option maxRecDepth 100000 in
set_option maxHeartbeats 1000000 in
theorem catch_fault (b : Nat) (a : Int) (why : Nat) (w : World) (u0 u1 u2 : Value) (hb : b + 2 < w.heap.size) (h0 : w.cell? ⟨b, 0, none⟩ = some u0) (f0 : w.frozen? ⟨b, 0, none⟩ = false) (h1 : w.cell? ⟨b + 1, 0, none⟩ = some u1) (f1 : w.frozen? ⟨b + 1, 0, none⟩ = false) (h2 : w.cell? ⟨b + 2, 0, none⟩ = some u2) (f2 : w.frozen? ⟨b + 2, 0, none⟩ = false) :
    CallsD Tryz.prog 43 #[.pointer (some ⟨b, 0, none⟩), .pointer (some ⟨b + 1, 0, none⟩), .pointer (some ⟨b + 2, 0, none⟩)] (.panicking [{ v := faultV a why, recovered := false }]) w fun e u' w' =>
      e = .returned (.tuple #[]) ∧ u' = .panicking [{ v := faultV a why, recovered := true }] ∧ w'.cell? ⟨b, 0, none⟩ = some .nilIface ∧ w'.cell? ⟨b + 1, 0, none⟩ = some (.int .i64 a) ∧ w'.cell? ⟨b + 2, 0, none⟩ = some (.int .i64 why) ∧ Below b w w' := by
  unfold faultV
  refine callsD_of_wpS Tryz.func43 rfl fun c₀ cs hu => ?_
  apply wpS_seq
  apply wpS_region
  simp [wpOpsS, go_sem, recoverD, hu, Tryz.ntmps43, Exit.thenS]
  refine wpS_of_wp ?_
  have k0 := fun (W : World) (x : Value) => ta_yes_fault W x
  have hb0 : b < w.heap.size := by omega
  have hb1 : b + 1 < w.heap.size := by omega
  change Code.wp _ _ _ { tmps := #[.pointer (some ⟨b, 0, none⟩), .pointer (some ⟨b + 1, 0, none⟩), .pointer (some ⟨b + 2, 0, none⟩), undef, undef, undef, .iface 97 (.agg #[.int .i64 a, .int .i64 why]), undef, undef, undef, undef, undef, undef, undef, undef, undef], defers := [] } _
  go_wp2
  go_region
  simp only [Exit.inBlock]
  have e0 : ((w.setCell ⟨b, 0, none⟩ .nilIface).setCell ⟨b + 1, 0, none⟩ (.int .i64 a)).setCell ⟨b + 2, 0, none⟩ (.int .i64 why) = ((w.setCell ⟨b, 0, none⟩ .nilIface).setCell ⟨b + 1, 0, none⟩ (.int .i64 a)).setCell ⟨b + 2, 0, none⟩ (.int .i64 why) := rfl
  have c0 : (((w.setCell ⟨b, 0, none⟩ .nilIface).setCell ⟨b + 1, 0, none⟩ (.int .i64 a)).setCell ⟨b + 2, 0, none⟩ (.int .i64 why)).cell? ⟨b, 0, none⟩ = some .nilIface := by
    rw [World.cell?_setCell_other _ _ _ _ (by intro h; injection h with h; omega), World.cell?_setCell_other _ _ _ _ (by intro h; injection h with h; omega)]
    exact World.cell?_setCell_same _ _ _ h0
  have c1 : (((w.setCell ⟨b, 0, none⟩ .nilIface).setCell ⟨b + 1, 0, none⟩ (.int .i64 a)).setCell ⟨b + 2, 0, none⟩ (.int .i64 why)).cell? ⟨b + 1, 0, none⟩ = some (.int .i64 a) := by
    rw [World.cell?_setCell_other _ _ _ _ (by intro h; injection h with h; omega)]
    exact World.cell?_setCell_same _ _ _ ((World.cell?_setCell_other _ _ _ _ (by intro h; injection h with h; omega)).trans h1)
  have c2 : (((w.setCell ⟨b, 0, none⟩ .nilIface).setCell ⟨b + 1, 0, none⟩ (.int .i64 a)).setCell ⟨b + 2, 0, none⟩ (.int .i64 why)).cell? ⟨b + 2, 0, none⟩ = some (.int .i64 why) :=
    World.cell?_setCell_same _ _ _ ((World.cell?_setCell_other _ _ _ _ (by intro h; injection h with h; omega)).trans ((World.cell?_setCell_other _ _ _ _ (by intro h; injection h with h; omega)).trans h2))
  have hB : Below b w (((w.setCell ⟨b, 0, none⟩ .nilIface).setCell ⟨b + 1, 0, none⟩ (.int .i64 a)).setCell ⟨b + 2, 0, none⟩ (.int .i64 why)) :=
    (((Below.refl b w).setCell (p := ⟨b, 0, none⟩) (Nat.le_refl _) _).setCell (p := ⟨b + 1, 0, none⟩) (Nat.le_succ _) _).setCell (p := ⟨b + 2, 0, none⟩) (by show b ≤ b + 2; omega) _
  have hs : (((w.setCell ⟨b, 0, none⟩ .nilIface).setCell ⟨b + 1, 0, none⟩ (.int .i64 a)).setCell ⟨b + 2, 0, none⟩ (.int .i64 why)).heap.size = w.heap.size := by simp
  generalize ((w.setCell ⟨b, 0, none⟩ .nilIface).setCell ⟨b + 1, 0, none⟩ (.int .i64 a)).setCell ⟨b + 2, 0, none⟩ (.int .i64 why) = W at *
  have hb3 : Below W.heap.size W (W.alloc (.cells #[.int .i64 a, .int .i64 why] 97)).drew := ((Below.refl _ _).alloc (Nat.le_refl _) _).drew
  exact ⟨rfl, _, rfl, .tuple #[], by simp [results, Tryz.results43], rfl, rfl, (hb3.cell (p := ⟨b, 0, none⟩) (by rw [hs]; exact hb0)).trans c0, (hb3.cell (p := ⟨b + 1, 0, none⟩) (by rw [hs]; exact hb1)).trans c1, (hb3.cell (p := ⟨b + 2, 0, none⟩) (by rw [hs]; exact hb)).trans c2, hB.trans (hb3.mono (by rw [hs]; omega))⟩
end Go.Proofs.YtbemeapjeipjlaaGreatDoor
/- Walks: math.Signbit, Abs, IsInf; query.literal, function, level, takes, name; slices.Contains. -/
namespace Go.Proofs.YtbemeapjeipjlaaGreatDoor
open Go Go.RowKit
attribute [local go_sem] ta_no_bool ta_yes_bool ta_nil_bool ta_no_int64 ta_yes_int64 ta_nil_int64 ta_no_flt ta_yes_flt ta_nil_flt ta_no_str ta_yes_str ta_nil_str ta_no_byt ta_yes_byt ta_nil_byt ta_no_ref ta_yes_ref ta_nil_ref ta_no_lst ta_yes_lst ta_nil_lst ta_no_dct ta_yes_dct ta_nil_dct ta_no_rec ta_yes_rec ta_nil_rec
def signB (x : Nat) : Bool := decide (wrap64 x < 0)
def absF (x : Nat) : Nat := (bits .andNot .u64 x 9223372036854775808).toNat
theorem neS {op : ByteArray} (l : List UInt8) (h : op ≠ ⟨l.toArray⟩) : (op.toList == l) = false := by
  rw [beq_eq_false_iff_ne]
  intro e
  apply h
  rw [bytes_toList] at e
  cases op with
  | mk d => subst e; simp
set_option maxRecDepth 100000 in
set_option maxHeartbeats 1000000 in
theorem signbit_any (x : Nat) (w : World) : Calls Tryz.prog 127 #[.float .f64 x] w (fun e w' => e = .returned (.bool (signB x)) ∧ w = w') := by
  have k0 := fun (w : World) => run_f64bits x w
  go_enter Tryz.func127, Tryz.ntmps127
  go_wp2
  go_ret
  exact ⟨rfl, rfl⟩
set_option maxRecDepth 100000 in
set_option maxHeartbeats 1000000 in
theorem abs_any (x : Nat) (w : World) : Calls Tryz.prog 150 #[.float .f64 x] w (fun e w' => e = .returned (.float .f64 (absF x)) ∧ w = w') := by
  have k0 := fun (w : World) => run_f64bits x w
  have k1 : ∀ (w : World), (callFunc 132 #[.int .u64 (bits .andNot .u64 x 9223372036854775808)]).run Tryz.prog w = .ok (.value (.float .f64 (absF x))) w := fun w => by
    rw [run_callFunc_extern Tryz.func132 (by kernel_rfl) (by kernel_rfl) (by kernel_rfl) (e := Extern.MathFloatBits.float64frombits) (by kernel_rfl)]; rfl
  go_enter Tryz.func150, Tryz.ntmps150
  go_wp2
  go_ret
  exact ⟨rfl, rfl⟩
def infB (x : Nat) : Bool := ordF (absF x) 9218868437227405311 == some .gt
set_option maxRecDepth 100000 in
set_option maxHeartbeats 1000000 in
theorem isInf_any (x : Nat) (w : World) : Calls Tryz.prog 128 #[.float .f64 x, .int .i64 0] w (fun e w' => e = .returned (.bool (infB x)) ∧ w = w') := by
  have HA := Lib.hid (abs_any x w)
  go_enter Tryz.func128, Tryz.ntmps128
  go_wp2_with fail
  refine HA.out.mono ?_
  rintro e w1 ⟨rfl, rfl⟩
  go_wp2
  go_ret
  exact ⟨rfl, rfl⟩
/- How many parts a function takes. -/
open Classical in
noncomputable def fnO (s : ByteArray) : Option Int := if s ∈ [gLen, gKind, gKeys, gFirst, gLast, gSum, gLeast, gMost] then some 1 else if s ∈ [gHas, gAny, gAll, gMap, gPick] then some 2 else none
set_option maxRecDepth 100000 in
set_option maxHeartbeats 1000000 in
theorem function_any (s : ByteArray) (w : World) : Calls Tryz.prog 125 #[.string s] w (fun e w' => e = .returned (.tuple #[.int .i64 ((fnO s).getD 0), .bool (fnO s).isSome]) ∧ w = w') := by
  by_cases hLen : s = gLen
  · subst hLen
    have HF : Hid (fnO gLen = some 1) := Lib.hid (by unfold fnO; rw [if_pos (by simp)])
    go_enter Tryz.func125, Tryz.ntmps125
    go_wp2
    go_ret2
    exact ⟨by rw [HF.out]; rfl, rfl⟩
  by_cases hKind : s = gKind
  · subst hKind
    have HF : Hid (fnO gKind = some 1) := Lib.hid (by unfold fnO; rw [if_pos (by simp)])
    go_enter Tryz.func125, Tryz.ntmps125
    go_wp2
    go_ret2
    exact ⟨by rw [HF.out]; rfl, rfl⟩
  by_cases hKeys : s = gKeys
  · subst hKeys
    have HF : Hid (fnO gKeys = some 1) := Lib.hid (by unfold fnO; rw [if_pos (by simp)])
    go_enter Tryz.func125, Tryz.ntmps125
    go_wp2
    go_ret2
    exact ⟨by rw [HF.out]; rfl, rfl⟩
  by_cases hFirst : s = gFirst
  · subst hFirst
    have HF : Hid (fnO gFirst = some 1) := Lib.hid (by unfold fnO; rw [if_pos (by simp)])
    go_enter Tryz.func125, Tryz.ntmps125
    go_wp2
    go_ret2
    exact ⟨by rw [HF.out]; rfl, rfl⟩
  by_cases hLast : s = gLast
  · subst hLast
    have HF : Hid (fnO gLast = some 1) := Lib.hid (by unfold fnO; rw [if_pos (by simp)])
    go_enter Tryz.func125, Tryz.ntmps125
    go_wp2
    go_ret2
    exact ⟨by rw [HF.out]; rfl, rfl⟩
  by_cases hSum : s = gSum
  · subst hSum
    have HF : Hid (fnO gSum = some 1) := Lib.hid (by unfold fnO; rw [if_pos (by simp)])
    go_enter Tryz.func125, Tryz.ntmps125
    go_wp2
    go_ret2
    exact ⟨by rw [HF.out]; rfl, rfl⟩
  by_cases hLeast : s = gLeast
  · subst hLeast
    have HF : Hid (fnO gLeast = some 1) := Lib.hid (by unfold fnO; rw [if_pos (by simp)])
    go_enter Tryz.func125, Tryz.ntmps125
    go_wp2
    go_ret2
    exact ⟨by rw [HF.out]; rfl, rfl⟩
  by_cases hMost : s = gMost
  · subst hMost
    have HF : Hid (fnO gMost = some 1) := Lib.hid (by unfold fnO; rw [if_pos (by simp)])
    go_enter Tryz.func125, Tryz.ntmps125
    go_wp2
    go_ret2
    exact ⟨by rw [HF.out]; rfl, rfl⟩
  by_cases hHas : s = gHas
  · subst hHas
    have HF : Hid (fnO gHas = some 2) := Lib.hid (by unfold fnO; rw [if_neg (by simp), if_pos (by simp)])
    go_enter Tryz.func125, Tryz.ntmps125
    go_wp2
    go_ret2
    exact ⟨by rw [HF.out]; rfl, rfl⟩
  by_cases hAny : s = gAny
  · subst hAny
    have HF : Hid (fnO gAny = some 2) := Lib.hid (by unfold fnO; rw [if_neg (by simp), if_pos (by simp)])
    go_enter Tryz.func125, Tryz.ntmps125
    go_wp2
    go_ret2
    exact ⟨by rw [HF.out]; rfl, rfl⟩
  by_cases hAll : s = gAll
  · subst hAll
    have HF : Hid (fnO gAll = some 2) := Lib.hid (by unfold fnO; rw [if_neg (by simp), if_pos (by simp)])
    go_enter Tryz.func125, Tryz.ntmps125
    go_wp2
    go_ret2
    exact ⟨by rw [HF.out]; rfl, rfl⟩
  by_cases hMap : s = gMap
  · subst hMap
    have HF : Hid (fnO gMap = some 2) := Lib.hid (by unfold fnO; rw [if_neg (by simp), if_pos (by simp)])
    go_enter Tryz.func125, Tryz.ntmps125
    go_wp2
    go_ret2
    exact ⟨by rw [HF.out]; rfl, rfl⟩
  by_cases hPick : s = gPick
  · subst hPick
    have HF : Hid (fnO gPick = some 2) := Lib.hid (by unfold fnO; rw [if_neg (by simp), if_pos (by simp)])
    go_enter Tryz.func125, Tryz.ntmps125
    go_wp2
    go_ret2
    exact ⟨by rw [HF.out]; rfl, rfl⟩
  have HF : Hid (fnO s = none) := Lib.hid (by unfold fnO; rw [if_neg (by simp [hLen, hKind, hKeys, hFirst, hLast, hSum, hLeast, hMost]), if_neg (by simp [hHas, hAny, hAll, hMap, hPick])])
  have eLen := neS [108, 101, 110] hLen
  have eKind := neS [107, 105, 110, 100] hKind
  have eKeys := neS [107, 101, 121, 115] hKeys
  have eFirst := neS [102, 105, 114, 115, 116] hFirst
  have eLast := neS [108, 97, 115, 116] hLast
  have eSum := neS [115, 117, 109] hSum
  have eLeast := neS [108, 101, 97, 115, 116] hLeast
  have eMost := neS [109, 111, 115, 116] hMost
  have eHas := neS [104, 97, 115] hHas
  have eAny := neS [97, 110, 121] hAny
  have eAll := neS [97, 108, 108] hAll
  have eMap := neS [109, 97, 112] hMap
  have ePick := neS [112, 105, 99, 107] hPick
  clear hLen hKind hKeys hFirst hLast hSum hLeast hMost hHas hAny hAll hMap hPick
  go_enter Tryz.func125, Tryz.ntmps125
  go_wp2
  go_ret2
  exact ⟨by rw [HF.out]; rfl, rfl⟩
def levelled : List ByteArray := [oOr, oAnd, oNot, oEq, oNe, oLt, oLe, oGt, oGe, oIn, oIs, oAdd, oSub, oMul, oDiv, oRem, oNeg, oDot, oAt]
set_option maxRecDepth 100000 in
set_option maxHeartbeats 1000000 in
theorem level_any (s : ByteArray) (w : World) : Calls Tryz.prog 126 #[.string s] w (fun e w' => ∃ k : Int, e = .returned (.int .i64 k) ∧ (k < 9 ↔ s ∈ levelled) ∧ w = w') := by
  by_cases hOr : s = oOr
  · subst hOr
    go_enter Tryz.func126, Tryz.ntmps126
    go_wp2
    go_ret
    exact ⟨1, rfl, ⟨fun _ => by unfold levelled; simp, fun _ => by decide⟩, rfl⟩
  by_cases hAnd : s = oAnd
  · subst hAnd
    go_enter Tryz.func126, Tryz.ntmps126
    go_wp2
    go_ret
    exact ⟨2, rfl, ⟨fun _ => by unfold levelled; simp, fun _ => by decide⟩, rfl⟩
  by_cases hNot : s = oNot
  · subst hNot
    go_enter Tryz.func126, Tryz.ntmps126
    go_wp2
    go_ret
    exact ⟨3, rfl, ⟨fun _ => by unfold levelled; simp, fun _ => by decide⟩, rfl⟩
  by_cases hEq : s = oEq
  · subst hEq
    go_enter Tryz.func126, Tryz.ntmps126
    go_wp2
    go_ret
    exact ⟨4, rfl, ⟨fun _ => by unfold levelled; simp, fun _ => by decide⟩, rfl⟩
  by_cases hNe : s = oNe
  · subst hNe
    go_enter Tryz.func126, Tryz.ntmps126
    go_wp2
    go_ret
    exact ⟨4, rfl, ⟨fun _ => by unfold levelled; simp, fun _ => by decide⟩, rfl⟩
  by_cases hLt : s = oLt
  · subst hLt
    go_enter Tryz.func126, Tryz.ntmps126
    go_wp2
    go_ret
    exact ⟨4, rfl, ⟨fun _ => by unfold levelled; simp, fun _ => by decide⟩, rfl⟩
  by_cases hLe : s = oLe
  · subst hLe
    go_enter Tryz.func126, Tryz.ntmps126
    go_wp2
    go_ret
    exact ⟨4, rfl, ⟨fun _ => by unfold levelled; simp, fun _ => by decide⟩, rfl⟩
  by_cases hGt : s = oGt
  · subst hGt
    go_enter Tryz.func126, Tryz.ntmps126
    go_wp2
    go_ret
    exact ⟨4, rfl, ⟨fun _ => by unfold levelled; simp, fun _ => by decide⟩, rfl⟩
  by_cases hGe : s = oGe
  · subst hGe
    go_enter Tryz.func126, Tryz.ntmps126
    go_wp2
    go_ret
    exact ⟨4, rfl, ⟨fun _ => by unfold levelled; simp, fun _ => by decide⟩, rfl⟩
  by_cases hIn : s = oIn
  · subst hIn
    go_enter Tryz.func126, Tryz.ntmps126
    go_wp2
    go_ret
    exact ⟨4, rfl, ⟨fun _ => by unfold levelled; simp, fun _ => by decide⟩, rfl⟩
  by_cases hIs : s = oIs
  · subst hIs
    go_enter Tryz.func126, Tryz.ntmps126
    go_wp2
    go_ret
    exact ⟨4, rfl, ⟨fun _ => by unfold levelled; simp, fun _ => by decide⟩, rfl⟩
  by_cases hAdd : s = oAdd
  · subst hAdd
    go_enter Tryz.func126, Tryz.ntmps126
    go_wp2
    go_ret
    exact ⟨5, rfl, ⟨fun _ => by unfold levelled; simp, fun _ => by decide⟩, rfl⟩
  by_cases hSub : s = oSub
  · subst hSub
    go_enter Tryz.func126, Tryz.ntmps126
    go_wp2
    go_ret
    exact ⟨5, rfl, ⟨fun _ => by unfold levelled; simp, fun _ => by decide⟩, rfl⟩
  by_cases hMul : s = oMul
  · subst hMul
    go_enter Tryz.func126, Tryz.ntmps126
    go_wp2
    go_ret
    exact ⟨6, rfl, ⟨fun _ => by unfold levelled; simp, fun _ => by decide⟩, rfl⟩
  by_cases hDiv : s = oDiv
  · subst hDiv
    go_enter Tryz.func126, Tryz.ntmps126
    go_wp2
    go_ret
    exact ⟨6, rfl, ⟨fun _ => by unfold levelled; simp, fun _ => by decide⟩, rfl⟩
  by_cases hRem : s = oRem
  · subst hRem
    go_enter Tryz.func126, Tryz.ntmps126
    go_wp2
    go_ret
    exact ⟨6, rfl, ⟨fun _ => by unfold levelled; simp, fun _ => by decide⟩, rfl⟩
  by_cases hNeg : s = oNeg
  · subst hNeg
    go_enter Tryz.func126, Tryz.ntmps126
    go_wp2
    go_ret
    exact ⟨7, rfl, ⟨fun _ => by unfold levelled; simp, fun _ => by decide⟩, rfl⟩
  by_cases hDot : s = oDot
  · subst hDot
    go_enter Tryz.func126, Tryz.ntmps126
    go_wp2
    go_ret
    exact ⟨8, rfl, ⟨fun _ => by unfold levelled; simp, fun _ => by decide⟩, rfl⟩
  by_cases hAt : s = oAt
  · subst hAt
    go_enter Tryz.func126, Tryz.ntmps126
    go_wp2
    go_ret
    exact ⟨8, rfl, ⟨fun _ => by unfold levelled; simp, fun _ => by decide⟩, rfl⟩
  have eOr := neS [111, 114] hOr
  have eAnd := neS [97, 110, 100] hAnd
  have eNot := neS [110, 111, 116] hNot
  have eEq := neS [61] hEq
  have eNe := neS [33, 61] hNe
  have eLt := neS [60] hLt
  have eLe := neS [60, 61] hLe
  have eGt := neS [62] hGt
  have eGe := neS [62, 61] hGe
  have eIn := neS [105, 110] hIn
  have eIs := neS [105, 115] hIs
  have eAdd := neS [43] hAdd
  have eSub := neS [45] hSub
  have eMul := neS [42] hMul
  have eDiv := neS [47] hDiv
  have eRem := neS [37] hRem
  have eNeg := neS [110, 101, 103] hNeg
  have eDot := neS [100, 111, 116] hDot
  have eAt := neS [97, 116] hAt
  have hn : ¬ s ∈ levelled := by unfold levelled; simp [hOr, hAnd, hNot, hEq, hNe, hLt, hLe, hGt, hGe, hIn, hIs, hAdd, hSub, hMul, hDiv, hRem, hNeg, hDot, hAt]
  clear hOr hAnd hNot hEq hNe hLt hLe hGt hGe hIn hIs hAdd hSub hMul hDiv hRem hNeg hDot hAt
  go_enter Tryz.func126, Tryz.ntmps126
  go_wp2
  go_ret
  exact ⟨9, rfl, ⟨fun h => absurd h (by decide), fun h => absurd h hn⟩, rfl⟩
end Go.Proofs.YtbemeapjeipjlaaGreatDoor
