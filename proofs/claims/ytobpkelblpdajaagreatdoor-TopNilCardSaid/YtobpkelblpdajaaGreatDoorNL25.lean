/- Walks: value.field, slices.CompareFunc of dicts, value.order, value.Same. -/
import Derived.Test.YtobpkelblpdajaaGreatDoorNL24
set_option linter.unusedVariables false
set_option linter.unusedSimpArgs false
set_option linter.unusedSectionVars false
namespace Go.Proofs.YtobpkelblpdajaaGreatDoor
open Go Go.RowKit
attribute [local go_sem] ta_no_bool ta_yes_bool ta_nil_bool ta_no_int64 ta_yes_int64 ta_nil_int64 ta_no_flt ta_yes_flt ta_nil_flt ta_no_str ta_yes_str ta_nil_str ta_no_byt ta_yes_byt ta_nil_byt ta_no_ref ta_yes_ref ta_nil_ref ta_no_lst ta_yes_lst ta_nil_lst ta_no_dct ta_yes_dct ta_nil_dct ta_no_rec ta_yes_rec ta_nil_rec ta1_bool ta1_int64 ta1_flt ta1_str ta1_byt ta1_ref ta1_lst ta1_dct ta1_rec
set_option maxRecDepth 100000 in
set_option maxHeartbeats 1000000 in
theorem vfield_any (n m : ByteArray) (x y : V) (ih : OrderC x) (va vb : Value) (w : World) (hfa : fineV x) (hfb : fineV y) (ha : Rd w w.heap.size x va) (hb : Rd w w.heap.size y vb) :
    Calls Tryz.prog 98 #[.agg #[.string n, va], .agg #[.string m, vb]] w (OrdPost (thenI (ordS n m) (ordV x y)) w) := by
  have HC := Lib.hid (fun (W : World) (hW : Below w.heap.size w W) => ih y va vb W hfa hfb (Rd.more hW.size _ _ (ha.below hW)) (Rd.more hW.size _ _ (hb.below hW)))
  have o1 := ha.one
  have o2 := hb.one
  have HB : Hid (Below w.heap.size w ((w.alloc (.cells #[.string n, va] 39)).alloc (.cells #[.string m, vb] 39))) := Lib.hid (((Below.refl _ _).alloc (Nat.le_refl _) _).alloc (by simp) _)
  have HS := Lib.hid (fun (W : World) => cmp_string n m W)
  clear ih hfa hfb ha hb
  by_cases hz : ordS n m = 0
  · have HF := Lib.hid (thenI_zero (b := ordV x y) hz)
    rw [hz] at HS
    generalize thenI (ordS n m) (ordV x y) = r at *
    clear hz
    go_enter Tryz.func98, Tryz.ntmps98
    go_wp2_with fail
    refine (HS.out _).mono ?_
    rintro e w1 ⟨rfl, rfl⟩
    go_wp2_with fail
    refine (HC.out _ HB.out).mono ?_
    rintro e w1 ⟨rfl, hb1⟩
    go_wp2
    go_ret
    exact ⟨ret_num HF.out.symm, HB.out.trans (hb1.mono (by simp; omega))⟩
  · have HF := Lib.hid (thenI_some (b := ordV x y) hz)
    generalize thenI (ordS n m) (ordV x y) = r at *
    generalize ordS n m = k at *
    have hq : (k != 0) = true := by simp [hz]
    go_enter Tryz.func98, Tryz.ntmps98
    go_wp2_with fail
    refine (HS.out _).mono ?_
    rintro e w1 ⟨rfl, rfl⟩
    go_wp2
    go_ret
    exact ⟨ret_num HF.out.symm, HB.out⟩
theorem DictAt.get {w : World} {B : Nat} {A : Option Addr} {l : List (ByteArray × V)} (h : DictAt w B A l) {k : Nat} {p : ByteArray × V} (hx : l[k]? = some p) :
    ∃ b off v, A = some ⟨b, off, none⟩ ∧ b < B ∧ w.cell? ⟨b, off + k * 2, none⟩ = some (.string p.1) ∧ p.1.size ≤ 140737488351232 ∧ w.cell? ⟨b, off + k * 2 + 1, none⟩ = some v ∧ Rd w B p.2 v := by
  rcases h with h | ⟨b, off, h1, h2, h3⟩
  · subst h; cases hx
  · obtain ⟨h4, h5, v, hv, hr⟩ := RdD.iff.1 h3 k p hx
    exact ⟨b, off, v, h1, h2, h4, h5, hv, hr⟩
set_option maxRecDepth 100000 in
set_option maxHeartbeats 1000000 in
theorem compare_dict (a b : List (ByteArray × V)) (ih : ∀ p ∈ a, OrderC p.2) (A1 A2 : Option Addr) (c1 c2 : Nat) (w : World) (hfa : fineD a) (hfb : fineD b) (hla : a.length ≤ 1099511627776) (hlb : b.length ≤ 1099511627776) (ha : DictAt w w.heap.size A1 a) (hb : DictAt w w.heap.size A2 b) :
    Calls Tryz.prog 97 #[.slice A1 a.length c1, .slice A2 b.length c2, .func (.func 98) #[] #[]] w (OrdPost (ordD a b) w) := by
  go_enter Tryz.func97, Tryz.ntmps97
  go_wp2
  go_loopw [13] (fun i wr => ∃ k : Nat, i = .int .i64 k ∧ k ≤ a.length ∧ k ≤ b.length ∧ Hid (ordD a b = ordD (a.drop k) (b.drop k)) ∧ Below w.heap.size w wr) (fun i _ => a.length - (intOf i).toNat)
  case atStart => exact ⟨0, rfl, by omega, by omega, Lib.hid rfl, Below.refl _ _⟩
  case round =>
    obtain ⟨k, rfl, hk1, hk2, HT, hbw⟩ := hrel
    have hz := hbw.size
    by_cases hlt : k < a.length
    · obtain ⟨x, hx⟩ : ∃ x, a[k]? = some x := ⟨_, List.getElem?_eq_getElem hlt⟩
      obtain ⟨b1, off1, v1, rfl, hB1, q1, -, p1, hr1⟩ := ha.get hx
      replace q1 := (hbw.cell (p := ⟨b1, off1 + k * 2, none⟩) hB1).trans q1
      replace p1 := (hbw.cell (p := ⟨b1, off1 + k * 2 + 1, none⟩) hB1).trans p1
      have o1 := fun (W : World) (a : Addr) (m : Mode) => run_store Tryz.prog W a v1 m hr1.one
      have hne1 : b1 < wr.heap.size := by omega
      by_cases hlt2 : k < b.length
      · obtain ⟨y, hy⟩ : ∃ y, b[k]? = some y := ⟨_, List.getElem?_eq_getElem hlt2⟩
        obtain ⟨b2, off2, v2, rfl, hB2, q2, -, p2, hr2⟩ := hb.get hy
        replace q2 := (hbw.cell (p := ⟨b2, off2 + k * 2, none⟩) hB2).trans q2
        replace p2 := (hbw.cell (p := ⟨b2, off2 + k * 2 + 1, none⟩) hB2).trans p2
        have o2 := fun (W : World) (a : Addr) (m : Mode) => run_store Tryz.prog W a v2 m hr2.one
        have hne2 : b2 < wr.heap.size := by omega
        have HB : Hid (Below wr.heap.size wr ((wr.alloc (.cells #[.string x.1, v1] 39)).alloc (.cells #[.string y.1, v2] 39))) := Lib.hid (((Below.refl _ _).alloc (Nat.le_refl _) _).alloc (by simp) _)
        have HU : Hid (ordD a b = thenI (thenI (ordS x.1 y.1) (ordV x.2 y.2)) (ordD (a.drop (k + 1)) (b.drop (k + 1)))) := Lib.hid (HT.out.trans (ordD_drop hx hy))
        have HC := Lib.hid (fun (W : World) (hW : Below wr.heap.size wr W) => vfield_any x.1 y.1 x.2 y.2 (ih x (List.mem_of_getElem? hx)) v1 v2 W (fineD_iff.1 hfa x (List.mem_of_getElem? hx)) (fineD_iff.1 hfb y (List.mem_of_getElem? hy)) (Rd.more hW.size _ _ (Rd.below (Rd.more hz _ _ (hr1.below hbw)) hW)) (Rd.more hW.size _ _ (Rd.below (Rd.more hz _ _ (hr2.below hbw)) hW)))
        clear ha hb hx hy HT ih hfa hfb hr1 hr2
        generalize hn : thenI (ordS x.1 y.1) (ordV x.2 y.2) = n at *
        by_cases hz0 : n = 0
        · have HF := Lib.hid (HU.out.trans (thenI_zero hz0))
          have hq : (n != 0) = false := by simp [hz0]
          clear hn
          go_wp2_with fail
          refine (HC.out _ HB.out).mono ?_
          rintro e w1 ⟨rfl, hb1⟩
          go_wp2
          refine ⟨⟨k + 1, rfl, by omega, by omega, HF, hbw.trans ((HB.out.trans (hb1.mono (by simp; omega))).mono hz)⟩, ?_⟩
          simp [intOf]; omega
        · have HF := Lib.hid (HU.out.trans (thenI_some hz0))
          have hq : (n != 0) = true := by simp [hz0]
          clear hn
          go_wp2_with fail
          refine (HC.out _ HB.out).mono ?_
          rintro e w1 ⟨rfl, hb1⟩
          go_wp2
          go_ret
          exact ⟨ret_num HF.out.symm, hbw.trans ((HB.out.trans (hb1.mono (by simp; omega))).mono hz)⟩
      · have HF := Lib.hid (HT.out.trans (ordD_end1 (by omega) hlt))
        clear HT ih ha hb hx hr1
        go_wp2
        go_ret
        exact ⟨ret_num HF.out.symm, hbw.alloc hz _⟩
    · obtain rfl : k = a.length := by omega
      by_cases hlt2 : a.length < b.length
      · have HF := Lib.hid (HT.out.trans (ordD_end2 rfl hlt2))
        clear HT ih ha hb
        go_wp2
        go_ret
        exact ⟨ret_num HF.out.symm, hbw⟩
      · have HF := Lib.hid (HT.out.trans (ordD_end3 rfl (by omega)))
        clear HT ih ha hb
        go_wp2
        go_ret
        exact ⟨ret_num HF.out.symm, hbw⟩
set_option maxRecDepth 100000 in
set_option maxHeartbeats 1000000 in
theorem order_kinds (a b : V) (va vb : Value) (w : World) (hk : kindV a ≠ kindV b) (ha : Rd w w.heap.size a va) (hb : Rd w w.heap.size b vb) : Calls Tryz.prog 50 #[va, vb] w (OrdPost (ordV a b) w) := by
  have K1 := Lib.hid (kind_any a va w.heap.size w ha)
  have K2 := Lib.hid (kind_any b vb w.heap.size w hb)
  have KC := Lib.hid (cmp_int (kindV a) (kindV b) w)
  have HF := Lib.hid (ordV_kinds hk)
  have hz : ordI (kindV a) (kindV b) ≠ 0 := fun h => hk (by have := ordI_zero.1 h; omega)
  generalize ordV a b = r at *
  generalize ordI (kindV a) (kindV b) = n at *
  have hq : (n != 0) = true := by simp [hz]
  clear ha hb hk
  go_enter Tryz.func50, Tryz.ntmps50
  go_wp2_with fail
  refine K1.out.mono ?_
  rintro e w1 ⟨rfl, rfl⟩
  go_wp2_with fail
  refine K2.out.mono ?_
  rintro e w1 ⟨rfl, rfl⟩
  go_wp2_with fail
  refine KC.out.mono ?_
  rintro e w1 ⟨rfl, rfl⟩
  go_wp2
  go_ret
  exact ⟨ret_num HF.out.symm, Below.refl _ _⟩
set_option maxRecDepth 100000 in
set_option maxHeartbeats 1000000 in
theorem order_nil (va vb : Value) (w : World) (ha : Rd w w.heap.size .nil va) (hb : Rd w w.heap.size .nil vb) : Calls Tryz.prog 50 #[va, vb] w (OrdPost (ordV .nil .nil) w) := by
  have K1 := Lib.hid (kind_any .nil _ w.heap.size w ha)
  have K2 := Lib.hid (kind_any .nil _ w.heap.size w hb)
  have KC : Hid (Calls Tryz.prog 87 #[.int .i64 (kindV .nil), .int .i64 (kindV .nil)] w (NumPost 0 w)) := Lib.hid (cmp_int (kindV .nil) (kindV .nil) w)
  obtain rfl := ha
  obtain rfl := hb
  go_enter Tryz.func50, Tryz.ntmps50
  go_wp2_with fail
  refine K1.out.mono ?_
  rintro e w1 ⟨rfl, rfl⟩
  go_wp2_with fail
  refine K2.out.mono ?_
  rintro e w1 ⟨rfl, rfl⟩
  go_wp2_with fail
  refine KC.out.mono ?_
  rintro e w1 ⟨rfl, rfl⟩
  go_wp2
  go_ret
  exact ⟨rfl, Below.refl _ _⟩
set_option maxRecDepth 100000 in
set_option maxHeartbeats 1000000 in
theorem order_int (a b : Int) (va vb : Value) (w : World) (ha : Rd w w.heap.size (.int a) va) (hb : Rd w w.heap.size (.int b) vb) : Calls Tryz.prog 50 #[va, vb] w (OrdPost (ordV (.int a) (.int b)) w) := by
  have K1 := Lib.hid (kind_any (.int a) _ w.heap.size w ha)
  have K2 := Lib.hid (kind_any (.int b) _ w.heap.size w hb)
  have KC : Hid (Calls Tryz.prog 87 #[.int .i64 (kindV (.int a)), .int .i64 (kindV (.int b))] w (NumPost 0 w)) := Lib.hid (cmp_int (kindV (.int a)) (kindV (.int b)) w)
  obtain ⟨rfl, _⟩ := ha
  obtain ⟨rfl, _⟩ := hb
  have HC := Lib.hid (cmp_int64 a b w)
  go_enter Tryz.func50, Tryz.ntmps50
  go_wp2_with fail
  refine K1.out.mono ?_
  rintro e w1 ⟨rfl, rfl⟩
  go_wp2_with fail
  refine K2.out.mono ?_
  rintro e w1 ⟨rfl, rfl⟩
  go_wp2_with fail
  refine KC.out.mono ?_
  rintro e w1 ⟨rfl, rfl⟩
  go_wp2_with fail
  refine HC.out.mono ?_
  rintro e w1 ⟨rfl, rfl⟩
  go_wp2
  go_ret
  exact ⟨rfl, Below.refl _ _⟩
set_option maxRecDepth 100000 in
set_option maxHeartbeats 1000000 in
theorem order_ref (a b : Int) (va vb : Value) (w : World) (ha : Rd w w.heap.size (.ref a) va) (hb : Rd w w.heap.size (.ref b) vb) : Calls Tryz.prog 50 #[va, vb] w (OrdPost (ordV (.ref a) (.ref b)) w) := by
  have K1 := Lib.hid (kind_any (.ref a) _ w.heap.size w ha)
  have K2 := Lib.hid (kind_any (.ref b) _ w.heap.size w hb)
  have KC : Hid (Calls Tryz.prog 87 #[.int .i64 (kindV (.ref a)), .int .i64 (kindV (.ref b))] w (NumPost 0 w)) := Lib.hid (cmp_int (kindV (.ref a)) (kindV (.ref b)) w)
  obtain ⟨rfl, _⟩ := ha
  obtain ⟨rfl, _⟩ := hb
  have HC := Lib.hid (cmp_ref a b w)
  go_enter Tryz.func50, Tryz.ntmps50
  go_wp2_with fail
  refine K1.out.mono ?_
  rintro e w1 ⟨rfl, rfl⟩
  go_wp2_with fail
  refine K2.out.mono ?_
  rintro e w1 ⟨rfl, rfl⟩
  go_wp2_with fail
  refine KC.out.mono ?_
  rintro e w1 ⟨rfl, rfl⟩
  go_wp2_with fail
  refine HC.out.mono ?_
  rintro e w1 ⟨rfl, rfl⟩
  go_wp2
  go_ret
  exact ⟨rfl, Below.refl _ _⟩
set_option maxRecDepth 100000 in
set_option maxHeartbeats 1000000 in
theorem order_text (a b : ByteArray) (va vb : Value) (w : World) (ha : Rd w w.heap.size (.text a) va) (hb : Rd w w.heap.size (.text b) vb) : Calls Tryz.prog 50 #[va, vb] w (OrdPost (ordV (.text a) (.text b)) w) := by
  have K1 := Lib.hid (kind_any (.text a) _ w.heap.size w ha)
  have K2 := Lib.hid (kind_any (.text b) _ w.heap.size w hb)
  have KC : Hid (Calls Tryz.prog 87 #[.int .i64 (kindV (.text a)), .int .i64 (kindV (.text b))] w (NumPost 0 w)) := Lib.hid (cmp_int (kindV (.text a)) (kindV (.text b)) w)
  obtain ⟨rfl, _⟩ := ha
  obtain ⟨rfl, _⟩ := hb
  have HC := Lib.hid (cmp_string a b w)
  go_enter Tryz.func50, Tryz.ntmps50
  go_wp2_with fail
  refine K1.out.mono ?_
  rintro e w1 ⟨rfl, rfl⟩
  go_wp2_with fail
  refine K2.out.mono ?_
  rintro e w1 ⟨rfl, rfl⟩
  go_wp2_with fail
  refine KC.out.mono ?_
  rintro e w1 ⟨rfl, rfl⟩
  go_wp2_with fail
  refine HC.out.mono ?_
  rintro e w1 ⟨rfl, rfl⟩
  go_wp2
  go_ret
  exact ⟨rfl, Below.refl _ _⟩
set_option maxRecDepth 100000 in
set_option maxHeartbeats 1000000 in
theorem order_bytes (a b : List UInt8) (va vb : Value) (w : World) (ha : Rd w w.heap.size (.bytes a) va) (hb : Rd w w.heap.size (.bytes b) vb) : Calls Tryz.prog 50 #[va, vb] w (OrdPost (ordV (.bytes a) (.bytes b)) w) := by
  have K1 := Lib.hid (kind_any (.bytes a) _ w.heap.size w ha)
  have K2 := Lib.hid (kind_any (.bytes b) _ w.heap.size w hb)
  have KC : Hid (Calls Tryz.prog 87 #[.int .i64 (kindV (.bytes a)), .int .i64 (kindV (.bytes b))] w (NumPost 0 w)) := Lib.hid (cmp_int (kindV (.bytes a)) (kindV (.bytes b)) w)
  obtain ⟨A1, c1, rfl, l1, -, r1⟩ := ha
  obtain ⟨A2, c2, rfl, l2, -, r2⟩ := hb
  have HC := Lib.hid (compare_bytes a b A1 A2 c1 c2 _ w l1 l2 r1 r2)
  go_enter Tryz.func50, Tryz.ntmps50
  go_wp2_with fail
  refine K1.out.mono ?_
  rintro e w1 ⟨rfl, rfl⟩
  go_wp2_with fail
  refine K2.out.mono ?_
  rintro e w1 ⟨rfl, rfl⟩
  go_wp2_with fail
  refine KC.out.mono ?_
  rintro e w1 ⟨rfl, rfl⟩
  go_wp2_with fail
  refine HC.out.mono ?_
  rintro e w1 ⟨rfl, rfl⟩
  go_wp2
  go_ret
  exact ⟨rfl, Below.refl _ _⟩
set_option maxRecDepth 100000 in
set_option maxHeartbeats 1000000 in
theorem order_bool (a b : Bool) (va vb : Value) (w : World) (ha : Rd w w.heap.size (.bool a) va) (hb : Rd w w.heap.size (.bool b) vb) : Calls Tryz.prog 50 #[va, vb] w (OrdPost (ordV (.bool a) (.bool b)) w) := by
  have K1 := Lib.hid (kind_any (.bool a) _ w.heap.size w ha)
  have K2 := Lib.hid (kind_any (.bool b) _ w.heap.size w hb)
  have KC : Hid (Calls Tryz.prog 87 #[.int .i64 (kindV (.bool a)), .int .i64 (kindV (.bool b))] w (NumPost 0 w)) := Lib.hid (cmp_int (kindV (.bool a)) (kindV (.bool b)) w)
  obtain rfl := ha
  obtain rfl := hb
  have HA := Lib.hid (fun x (W : World) => truth_any x W)
  have HC := Lib.hid (fun (W : World) => cmp_int (truthI a) (truthI b) W)
  have HF : Hid (ordV (.bool a) (.bool b) = ordI (truthI a) (truthI b)) := Lib.hid (by rw [ordV])
  generalize ordV (.bool a) (.bool b) = r at *
  generalize ordI (truthI a) (truthI b) = n at *
  go_enter Tryz.func50, Tryz.ntmps50
  go_wp2_with fail
  refine K1.out.mono ?_
  rintro e w1 ⟨rfl, rfl⟩
  go_wp2_with fail
  refine K2.out.mono ?_
  rintro e w1 ⟨rfl, rfl⟩
  go_wp2_with fail
  refine KC.out.mono ?_
  rintro e w1 ⟨rfl, rfl⟩
  go_wp2
  refine wp_region_below_lit (by kernel_rfl) (by kernel_rfl) ?_
  repeat (refine WpC.step (fun K hK => ?_); go_simp; first | (refine hK _ ?_; clear hK K) | (apply Exists.intro; refine ⟨fun W hW => ?_, hK _ ?_⟩; (first | (intros; rfl) | (refine ⟨rfl, ?_⟩; rfl) | ((obtain ⟨hc, hf⟩ := bcellB hW; go_simp; rfl)) | ((first | (go_at_call 89; refine (HA.out _ _).mono ?_; rintro e w1 ⟨rfl, rfl⟩; exact ⟨rfl, hW⟩) | (go_at_call 87; refine (HC.out _).mono ?_; rintro e w1 ⟨rfl, rfl⟩; exact ⟨rfl, hW⟩)))); clear hK K))
  refine WpC.nil ?_
  intro wq hwq
  go_wp2
  go_ret
  exact ⟨ret_num HF.out.symm, hwq⟩
set_option maxRecDepth 100000 in
set_option maxHeartbeats 1000000 in
theorem order_flt (a b : Nat) (va vb : Value) (w : World) (ha : Rd w w.heap.size (.flt a) va) (hb : Rd w w.heap.size (.flt b) vb) : Calls Tryz.prog 50 #[va, vb] w (OrdPost (ordV (.flt a) (.flt b)) w) := by
  have K1 := Lib.hid (kind_any (.flt a) _ w.heap.size w ha)
  have K2 := Lib.hid (kind_any (.flt b) _ w.heap.size w hb)
  have KC : Hid (Calls Tryz.prog 87 #[.int .i64 (kindV (.flt a)), .int .i64 (kindV (.flt b))] w (NumPost 0 w)) := Lib.hid (cmp_int (kindV (.flt a)) (kindV (.flt b)) w)
  obtain rfl := ha
  obtain rfl := hb
  have HA := Lib.hid (fun x (W : World) => place_any x W)
  have HC := Lib.hid (fun (W : World) => cmp_uint64 (placeV a) (placeV b) W)
  have HF : Hid (ordV (.flt a) (.flt b) = ordI (placeV a) (placeV b)) := Lib.hid (by rw [ordV])
  generalize ordV (.flt a) (.flt b) = r at *
  generalize ordI (placeV a) (placeV b) = n at *
  go_enter Tryz.func50, Tryz.ntmps50
  go_wp2_with fail
  refine K1.out.mono ?_
  rintro e w1 ⟨rfl, rfl⟩
  go_wp2_with fail
  refine K2.out.mono ?_
  rintro e w1 ⟨rfl, rfl⟩
  go_wp2_with fail
  refine KC.out.mono ?_
  rintro e w1 ⟨rfl, rfl⟩
  go_wp2
  refine wp_region_below_lit (by kernel_rfl) (by kernel_rfl) ?_
  repeat (refine WpC.step (fun K hK => ?_); go_simp; first | (refine hK _ ?_; clear hK K) | (apply Exists.intro; refine ⟨fun W hW => ?_, hK _ ?_⟩; (first | (intros; rfl) | (refine ⟨rfl, ?_⟩; rfl) | ((obtain ⟨hc, hf⟩ := bcellB hW; go_simp; rfl)) | ((first | (go_at_call 92; refine (HA.out _ _).mono ?_; rintro e w1 ⟨rfl, rfl⟩; exact ⟨rfl, hW⟩) | (go_at_call 91; refine (HC.out _).mono ?_; rintro e w1 ⟨rfl, rfl⟩; exact ⟨rfl, hW⟩)))); clear hK K))
  refine WpC.nil ?_
  intro wq hwq
  go_wp2
  go_ret
  exact ⟨ret_num HF.out.symm, hwq⟩
set_option maxRecDepth 100000 in
set_option maxHeartbeats 1000000 in
theorem order_list (a b : List V) (ih : ∀ x ∈ a, OrderC x) (hfa : fineL a) (hfb : fineL b) (va vb : Value) (w : World) (ha : Rd w w.heap.size (.list a) va) (hb : Rd w w.heap.size (.list b) vb) : Calls Tryz.prog 50 #[va, vb] w (OrdPost (ordV (.list a) (.list b)) w) := by
  have K1 := Lib.hid (kind_any (.list a) _ w.heap.size w ha)
  have K2 := Lib.hid (kind_any (.list b) _ w.heap.size w hb)
  have KC : Hid (Calls Tryz.prog 87 #[.int .i64 (kindV (.list a)), .int .i64 (kindV (.list b))] w (NumPost 0 w)) := Lib.hid (cmp_int (kindV (.list a)) (kindV (.list b)) w)
  obtain ⟨A1, c1, rfl, l1, -, r1⟩ := ha
  obtain ⟨A2, c2, rfl, l2, -, r2⟩ := hb
  have HC := Lib.hid (compare_list a b ih A1 A2 c1 c2 w hfa hfb l1 l2 r1 r2)
  clear ih hfa hfb r1 r2
  go_enter Tryz.func50, Tryz.ntmps50
  go_wp2_with fail
  refine K1.out.mono ?_
  rintro e w1 ⟨rfl, rfl⟩
  go_wp2_with fail
  refine K2.out.mono ?_
  rintro e w1 ⟨rfl, rfl⟩
  go_wp2_with fail
  refine KC.out.mono ?_
  rintro e w1 ⟨rfl, rfl⟩
  go_wp2_with fail
  refine HC.out.mono ?_
  rintro e w1 ⟨rfl, hb1⟩
  go_wp2
  go_ret
  exact ⟨rfl, hb1⟩
set_option maxRecDepth 100000 in
set_option maxHeartbeats 1000000 in
theorem order_dict (a b : List (ByteArray × V)) (ih : ∀ p ∈ a, OrderC p.2) (hfa : fineD a) (hfb : fineD b) (va vb : Value) (w : World) (ha : Rd w w.heap.size (.dict a) va) (hb : Rd w w.heap.size (.dict b) vb) : Calls Tryz.prog 50 #[va, vb] w (OrdPost (ordV (.dict a) (.dict b)) w) := by
  have K1 := Lib.hid (kind_any (.dict a) _ w.heap.size w ha)
  have K2 := Lib.hid (kind_any (.dict b) _ w.heap.size w hb)
  have KC : Hid (Calls Tryz.prog 87 #[.int .i64 (kindV (.dict a)), .int .i64 (kindV (.dict b))] w (NumPost 0 w)) := Lib.hid (cmp_int (kindV (.dict a)) (kindV (.dict b)) w)
  obtain ⟨A1, c1, rfl, l1, r1⟩ := ha
  obtain ⟨A2, c2, rfl, l2, r2⟩ := hb
  have HC := Lib.hid (compare_dict a b ih A1 A2 c1 c2 w hfa hfb l1 l2 r1 r2)
  clear ih hfa hfb r1 r2
  go_enter Tryz.func50, Tryz.ntmps50
  go_wp2_with fail
  refine K1.out.mono ?_
  rintro e w1 ⟨rfl, rfl⟩
  go_wp2_with fail
  refine K2.out.mono ?_
  rintro e w1 ⟨rfl, rfl⟩
  go_wp2_with fail
  refine KC.out.mono ?_
  rintro e w1 ⟨rfl, rfl⟩
  go_wp2_with fail
  refine HC.out.mono ?_
  rintro e w1 ⟨rfl, hb1⟩
  go_wp2
  go_ret
  exact ⟨rfl, hb1⟩
end Go.Proofs.YtobpkelblpdajaaGreatDoor
