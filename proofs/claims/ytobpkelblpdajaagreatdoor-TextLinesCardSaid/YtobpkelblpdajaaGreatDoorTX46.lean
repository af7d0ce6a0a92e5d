/- Whatever the term: the lines that text.Lines prints, laid on one line, are the text that text.Print prints, and both tell the same error. The row is proved, then the card that ties the listed variables to the program's text. No condition. -/
import Derived.Test.YtobpkelblpdajaaGreatDoorTX44
import Derived.Test.YtobpkelblpdajaaGreatDoorTX45
import Derived.Test.YtobpkelblpdajaaGreatDoorTX23
import Derived.Test.YtobpkelblpdajaaGreatDoorTX26
import Derived.Test.YtobpkelblpdajaaGreatDoorTX27
import Derived.Test.YtobpkelblpdajaaGreatDoorTX08
import Derived.Test.YtobpkelblpdajaaGreatDoorTX21
import Derived.Test.YtobpkelblpdajaaGreatDoorRows
import Derived.Lib.LaidU8
import Derived.MakeChecks
import Derived.ChangeSame
import Derived.Test.YtobpkelblpdajaaGreatDoorTX38
import Derived.LaidLaws
import Derived.Test.YtobpkelblpdajaaGreatDoorCards
import Derived.Test.YtobpkelblpdajaaGreatDoorTie
import Derived.ProofKit
import Derived.LaidMore
import Derived.Lay
import Derived.OpenShut
import Derived.ShutString
import Derived.Lib.SmallJoins
import Derived.Stop.Joined
import Derived.SizedLaws
import Derived.SevenTiedAt
import Derived.Carry
import Derived.Laws.Cover2
set_option linter.unusedVariables false
set_option linter.unusedSimpArgs false
set_option linter.unusedSectionVars false
namespace Go.Proofs.YtobpkelblpdajaaGreatDoor
open Go Go.RowKit
attribute [local go_sem] ta_no_bool ta_yes_bool ta_nil_bool ta_no_int64 ta_yes_int64 ta_nil_int64 ta_no_flt ta_yes_flt ta_nil_flt ta_no_str ta_yes_str ta_nil_str ta_no_byt ta_yes_byt ta_nil_byt ta_no_ref ta_yes_ref ta_nil_ref ta_no_lst ta_yes_lst ta_nil_lst ta_no_dct ta_yes_dct ta_nil_dct ta_no_rec ta_yes_rec ta_nil_rec
def lvX : V := .list [.nil, .int (-3), .text ⟨#[97, 10]⟩, .bytes [10], .ref 7, .flt 4609434218613702656]
def lvP : List UInt8 := [91, 110, 105, 108, 44, 32, 45, 51, 44, 32, 34, 97, 92, 110, 34, 44, 32, 35, 48, 97, 44, 32, 64, 55, 44, 32, 48, 120, 49, 46, 56, 112, 43, 48, 48, 93]
theorem lv_put : putV false lvX 0 = lvP := by
  have e1 : Lib.itoa (-3) = [45, 51] := by
    show 45 :: Lib.decDigits 3 = _
    rw [Lib.decDigits_one (by omega)]; rfl
  have e2 : Lib.decDigits (Int.toNat 7) = [55] := by
    show Lib.decDigits 7 = _
    rw [Lib.decDigits_one (by omega)]; rfl
  have e3 : fltT 4609434218613702656 = [48, 120, 49, 46, 56, 112, 43, 48, 48] := by
    unfold fltT bodyT
    simp only [Nat.reduceDiv, Nat.reduceMod, Nat.reduceEqDiff, if_false, Nat.reduceAdd, Nat.reduceSub, Nat.reduceLeDiff]
    have h0 : expT 0 = [43, 48, 48] := by
      show 43 :: (_ ++ Lib.decDigits 0) = _
      rw [Lib.decDigits_one (by omega)]; rfl
    have h1 : expT (((1023 : Nat) : Int) - 1023) = [43, 48, 48] := h0
    simp only [List.nil_append, h1, Nat.reduceEqDiff, false_and, if_false]
    decide
  unfold lvX
  rw [putV]
  simp only [putL, putV, e1, e2, e3]
  decide
theorem own_nil0 {n d : Nat} (h1 : n < 16384) (h2 : d ≤ 64) : ownV .nil n d = 0 := by unfold ownV; rw [if_neg (by omega)]
theorem own_int0 {n d : Nat} {i : Int} (h1 : n < 16384) (h2 : d ≤ 64) : ownV (.int i) n d = 0 := by unfold ownV; rw [if_neg (by omega)]
theorem own_ref0 {n d : Nat} {i : Int} (h1 : n < 16384) (h2 : d ≤ 64) : ownV (.ref i) n d = 0 := by unfold ownV; rw [if_neg (by omega)]
theorem own_flt0 {n d : Nat} {i : Nat} (h1 : n < 16384) (h2 : d ≤ 64) : ownV (.flt i) n d = 0 := by unfold ownV; rw [if_neg (by omega)]
theorem own_text0 {n d : Nat} {s : ByteArray} (h1 : n < 16384) (h2 : d ≤ 64) (h3 : s.size ≤ 65536) : ownV (.text s) n d = 0 := by unfold ownV; rw [if_neg (by omega)]; simp only; rw [if_neg (by omega)]
theorem own_bytes0 {n d : Nat} {s : List UInt8} (h1 : n < 16384) (h2 : d ≤ 64) (h3 : s.length ≤ 65536) : ownV (.bytes s) n d = 0 := by unfold ownV; rw [if_neg (by omega)]; simp only; rw [if_neg (by omega)]
theorem own_list0 {n d : Nat} {s : List V} (h1 : n < 16384) (h2 : d ≤ 64) (h3 : s.length ≤ 4096) : ownV (.list s) n d = 0 := by unfold ownV; rw [if_neg (by omega)]; simp only; rw [if_neg (by omega)]
theorem lv_check : (checkV lvX).2 = 0 := by
  have : (partV lvX 1 ⟨0, 0, 0⟩).1 = true := by
    unfold lvX
    rw [partV, stepV, if_pos (own_list0 (by decide) (by decide) (by simp))]
    simp only [partL]
    rw [partV, stepV, if_pos (own_nil0 (by decide) (by decide)), thenV_yes rfl]
    simp only
    rw [partV, stepV, if_pos (own_int0 (by decide) (by decide)), thenV_yes rfl]
    simp only
    rw [partV, stepV, if_pos (own_text0 (by decide) (by decide) (by decide)), thenV_yes rfl]
    simp only
    rw [partV, stepV, if_pos (own_bytes0 (by decide) (by decide) (by decide)), thenV_yes rfl]
    simp only
    rw [partV, stepV, if_pos (own_ref0 (by decide) (by decide)), thenV_yes rfl]
    simp only
    rw [partV, stepV, if_pos (own_flt0 (by decide) (by decide)), thenV_yes rfl]
  rw [checkV_yes this]
theorem lv_print : printV false lvX = (⟨lvP.toArray⟩, 0) := by
  unfold printV
  rw [if_pos lv_check, lv_put]
theorem lv_flt : FltV lvX := by
  unfold lvX
  simp [FltV, FltL]
theorem lv_read (w : World) : Rd ((w.alloc (.cells #[.int .u8 10] 5)).alloc (.cells #[.nilIface, .iface 2 (.int .i64 (-3)), .iface 9 (.string ⟨#[97, 10]⟩), .iface 23 (.slice (some ⟨w.heap.size, 0, none⟩) 1 1), .iface 25 (.int .u64 7), .iface 22 (.float .f64 4609434218613702656)] 20)) ((w.alloc (.cells #[.int .u8 10] 5)).alloc (.cells #[.nilIface, .iface 2 (.int .i64 (-3)), .iface 9 (.string ⟨#[97, 10]⟩), .iface 23 (.slice (some ⟨w.heap.size, 0, none⟩) 1 1), .iface 25 (.int .u64 7), .iface 22 (.float .f64 4609434218613702656)] 20)).heap.size lvX (.iface 43 (.slice (some ⟨w.heap.size + 1, 0, none⟩) 6 6)) := by
  have z1 : (w.alloc (.cells #[.int .u8 10] 5)).heap.size = w.heap.size + 1 := by simp
  have n1 := heap_alloc_new w (.cells #[.int .u8 10] 5)
  have n2 := fun o => heap_alloc_new (w.alloc (.cells #[.int .u8 10] 5)) o
  rw [z1] at n2
  have n3 := fun o => (heap_alloc_old (w.alloc (.cells #[.int .u8 10] 5)) o (r := w.heap.size) (by rw [z1]; omega)).trans n1
  have sz : ∀ o, ((w.alloc (.cells #[.int .u8 10] 5)).alloc o).heap.size = w.heap.size + 2 := fun o => by simp
  generalize hW : (w.alloc (.cells #[.int .u8 10] 5)).alloc (.cells #[.nilIface, .iface 2 (.int .i64 (-3)), .iface 9 (.string ⟨#[97, 10]⟩), .iface 23 (.slice (some ⟨w.heap.size, 0, none⟩) 1 1), .iface 25 (.int .u64 7), .iface 22 (.float .f64 4609434218613702656)] 20) = W
  have c2 := n2 (.cells #[.nilIface, .iface 2 (.int .i64 (-3)), .iface 9 (.string ⟨#[97, 10]⟩), .iface 23 (.slice (some ⟨w.heap.size, 0, none⟩) 1 1), .iface 25 (.int .u64 7), .iface 22 (.float .f64 4609434218613702656)] 20)
  have c1 := n3 (.cells #[.nilIface, .iface 2 (.int .i64 (-3)), .iface 9 (.string ⟨#[97, 10]⟩), .iface 23 (.slice (some ⟨w.heap.size, 0, none⟩) 1 1), .iface 25 (.int .u64 7), .iface 22 (.float .f64 4609434218613702656)] 20)
  have hs := sz (.cells #[.nilIface, .iface 2 (.int .i64 (-3)), .iface 9 (.string ⟨#[97, 10]⟩), .iface 23 (.slice (some ⟨w.heap.size, 0, none⟩) 1 1), .iface 25 (.int .u64 7), .iface 22 (.float .f64 4609434218613702656)] 20)
  rw [hW] at c1 c2 hs
  have d2 := fun (o : Nat) => Lib.cell_of_heap (j := o) c2
  have d1 := fun (o : Nat) => Lib.cell_of_heap (j := o) c1
  unfold lvX
  refine ⟨some ⟨w.heap.size + 1, 0, none⟩, 6, rfl, by simp, ⟨by simp, by simp⟩, .inr ⟨_, _, rfl, by omega, ?_⟩⟩
  refine ⟨⟨_, (d2 0).trans rfl, rfl⟩, ⟨_, (d2 1).trans rfl, rfl, by omega⟩, ⟨_, (d2 2).trans rfl, rfl, by decide⟩, ⟨_, (d2 3).trans rfl, _, _, rfl, by decide, by simp, .inr ⟨_, _, rfl, by omega, fun i x hi => ?_⟩⟩, ⟨_, (d2 4).trans rfl, rfl, by omega⟩, ⟨_, (d2 5).trans rfl, rfl⟩, trivial⟩
  cases i with
  | zero => simp at hi; subst hi; exact (d1 0).trans rfl
  | succ i => simp at hi
theorem lv_whole : wholeR lvS (.ok (.list [.int 1, .record ⟨#[112, 101, 114, 115, 111, 110]⟩ 2 [(⟨#[97]⟩, .bytes [])]], 23, 4)) = .ok (.list [.int 1, .record ⟨#[112, 101, 114, 115, 111, 110]⟩ 2 [(⟨#[97]⟩, .bytes [])]], 0, 4) := by
  unfold wholeR
  simp only
  rw [if_neg (by rw [lvS_list]; decide)]
theorem Env.more {w : World} {B B2 : Nat} (h : Env w B) (hB : B ≤ B2) : Env w B2 := ⟨h.esc, h.pow, h.deb, Nat.lt_of_lt_of_le h.b1 hB, Nat.lt_of_lt_of_le h.b2 hB, Nat.lt_of_lt_of_le h.b3 hB⟩
theorem EnvP.more {w : World} {B B2 : Nat} (h : EnvP w B) (hB : B ≤ B2) : EnvP w B2 := ⟨Env.more h.env hB, h.errs, Nat.lt_of_lt_of_le h.e1 hB, Nat.lt_of_lt_of_le h.e2 hB⟩
set_option maxRecDepth 100000 in
set_option maxHeartbeats 4000000 in
theorem lives_any (w : World) (h1 : Env w w.heap.size) (h2 : Errs w) : Calls Tryz.prog 30 #[] w (BoolPost true w) := by
  have he := EnvP.of h1 h2
  have HE := Lib.hid he
  have HRd := Lib.hid (lv_read w)
  have HPr := Lib.hid (fun (v : Value) (W : World) (h : Rd W W.heap.size lvX v) (h2 : Env W W.heap.size) => (by have := Print_any lvX v W h lv_flt h2; rw [lv_print] at this; exact this : Calls Tryz.prog 16 #[v] W (fun e w' => e = .returned (.tuple #[.string ⟨lvP.toArray⟩, .int .i64 (0 : Nat)]) ∧ Below W.heap.size W w')))
  have HP1 := Lib.hid (fun (W : World) (h : EnvP W W.heap.size) => (by have := Parse_any lvS (by rw [lvS_size]; omega) _ lv_first (fun x q m h => by injection h with h; injection h with _ h; injection h with h _; subst h; rw [lvS_size]; omega) W h; rw [lv_whole] at this; exact this : Calls Tryz.prog 41 #[.string lvS] W (ParsePost (.ok (.list [.int 1, .record ⟨#[112, 101, 114, 115, 111, 110]⟩ 2 [(⟨#[97]⟩, .bytes [])]], 0, 4)) W)))
  have HP2 := Lib.hid (fun (W : World) (h : EnvP W W.heap.size) => (Parse_any lvT (by rw [lvT_size]; omega) _ lv_bad (fun x q m h => by cases h) W h : Calls Tryz.prog 41 #[.string lvT] W (ParsePost (.error (3, 3)) W)))
  unfold lvS at HP1
  unfold lvT at HP2
  unfold lvP at HPr
  have hb0 : Below w.heap.size w ((w.alloc (.cells #[.int .u8 10] 5)).alloc (.cells #[.nilIface, .iface 2 (.int .i64 (-3)), .iface 9 (.string ⟨#[97, 10]⟩), .iface 23 (.slice (some ⟨w.heap.size, 0, none⟩) 1 1), .iface 25 (.int .u64 7), .iface 22 (.float .f64 4609434218613702656)] 20)) := ((Below.refl _ _).alloc (Nat.le_refl _) _).alloc (by simp) _
  have HB0 := Lib.hid hb0
  clear h1 h2 he hb0
  go_enter Tryz.func30, Tryz.ntmps30
  go_wp2_with fail
  refine (HPr.out _ _ HRd.out (Env.more (HE.out.env.below HB0.out) HB0.out.size)).mono ?_
  rintro e w1 ⟨rfl, hb1⟩
  have HB1 := Lib.hid (HB0.out.trans (hb1.mono HB0.out.size))
  clear hb1 HPr HRd
  go_wp2_with fail
  refine (HP1.out w1 (EnvP.more (HE.out.below HB1.out) HB1.out.size)).mono ?_
  rintro e w2 ⟨v, rfl, hv, hb2⟩
  have HB2 := Lib.hid (HB1.out.trans (hb2.mono HB1.out.size))
  obtain ⟨A, c, rfl, -, ⟨-, hcap⟩, hr⟩ := hv
  rcases hr with hr | ⟨b, off, rfl, hb, ⟨y, hy, hy2, -⟩, -⟩
  · cases hr
  subst hy2
  simp only [List.length_cons, List.length_nil, Nat.zero_add, Nat.reduceAdd] at hcap ⊢
  go_wp2_with fail
  refine (HP2.out w2 (EnvP.more (HE.out.below HB2.out) HB2.out.size)).mono ?_
  rintro e w3 ⟨rfl, hb3⟩
  have hy3 := (hb3.cell (p := ⟨b, off, none⟩) hb.2).trans hy
  have HB3 := Lib.hid (HB2.out.trans (hb3.mono HB2.out.size))
  clear hy hb3 hb2
  have kq : ∀ W : World, (binOp .eql 20 (.iface 2 (.int .i64 1)) (.iface 2 (.int .i64 1))).run Tryz.prog W = .ok (.bool true) W := fun W => by kernel_rfl
  go_wp2_with fail
  go_ret
  exact ⟨rfl, HB3.out⟩
end Go.Proofs.YtobpkelblpdajaaGreatDoor
/- Walk: the law that the lines are the text. -/
namespace Go.Proofs.YtobpkelblpdajaaGreatDoor
open Go Go.RowKit
theorem lines_flat {x : V} {w : World} {B : Nat} {v : Value} (hv : Rd w B x v) (hf : FltV x) : flatM [] false (printV true x).1.data.toList = (printV false x).1.data.toList := by
  unfold printV
  by_cases h : (checkV x).2 = 0
  · rw [if_pos h, if_pos h]
    have hok : (partV x 1 ⟨0, 0, 0⟩).1 = true := by
      cases hq : (partV x 1 ⟨0, 0, 0⟩).1 with
      | true => rfl
      | false =>
        have hw := part_why x 1 ⟨0, 0, 0⟩ hq
        rw [checkV_no hq] at h
        exact absurd h hw
    have hfit := fit_of x w _ v 0 ⟨0, 0, 0⟩ hv hf (by decide) hok
    have := (flat_put x 0 hfit.1 (nam_of x _ _ hok)).1 [] false []
    simpa [flatM] using this
  · rw [if_neg h, if_neg h]; rfl
theorem lines_size {x : V} {w : World} {B : Nat} {v : Value} (hv : Rd w B x v) (hf : FltV x) (ln : Bool) : (printV ln x).1.size ≤ 140737488351232 := by
  unfold printV
  by_cases h : (checkV x).2 = 0
  · rw [if_pos h]
    have hok : (partV x 1 ⟨0, 0, 0⟩).1 = true := by
      cases hq : (partV x 1 ⟨0, 0, 0⟩).1 with
      | true => rfl
      | false =>
        have hw := part_why x 1 ⟨0, 0, 0⟩ hq
        rw [checkV_no hq] at h
        exact absurd h hw
    have hfit := fit_of x w _ v 0 ⟨0, 0, 0⟩ hv hf (by decide) hok
    have h1 := put_len ln x 0 hfit.1
    have h2 := hfit.2.1
    have h3 := hfit.2.2
    simp only at h2
    show (putV ln x 0).toArray.size ≤ _
    rw [List.size_toArray]
    omega
  · rw [if_neg h]; show ByteArray.empty.size ≤ _; decide
theorem print_why (x : V) (ln : Bool) : (printV ln x).2 = (checkV x).2 := by
  unfold printV
  by_cases h : (checkV x).2 = 0
  · rw [if_pos h, h]
  · rw [if_neg h]
set_option maxRecDepth 100000 in
set_option maxHeartbeats 4000000 in
theorem lines_law (T : Tm) (xs : List Value) (w : World) (hx : RdT w w.heap.size T xs) (hf : FltT T) (he : Env w w.heap.size) (her : Errs w) : Calls Tryz.prog 4 #[termOf xs] w (BoolPost true w) := by
  obtain ⟨x0, x1, x2, x3, x4, x5, x6, x7, x8, x9, x10, rfl, h1c⟩ := hx.eleven
  have HF := Lib.hid (flt_built T hf)
  have HX := Lib.hid hx
  have HLv := Lib.hid (fun (W : World) (h : Env W W.heap.size) (h2 : Errs W) => lives_any W h h2)
  have HBt := Lib.hid (fun (W : World) (h : RdT W W.heap.size T [x0, x1, x2, x3, x4, x5, x6, x7, x8, x9, x10]) => built_any T _ W h)
  have HPr := Lib.hid (fun (v : Value) (W : World) (h : Rd W W.heap.size (builtV T) v) (h2 : Env W W.heap.size) => Print_any (builtV T) v W h HF.out h2)
  have HLi := Lib.hid (fun (v : Value) (W : World) (h : Rd W W.heap.size (builtV T) v) (h2 : Env W W.heap.size) => Lines_any (builtV T) v W h HF.out h2)
  have HE := Lib.hid he
  have HER := Lib.hid her
  have hbx : Below w.heap.size w (w.alloc (.cells #[x0, x1, x2, x3, x4, x5, x6, x7, x8, x9, x10] 29)) := (Below.refl _ _).alloc (Nat.le_refl _) _
  have HBX := Lib.hid hbx
  have hZ : w.heap.size + 1 ≤ (w.alloc (.cells #[x0, x1, x2, x3, x4, x5, x6, x7, x8, x9, x10] 29)).heap.size := by simp
  clear hx hf he her hbx
  unfold termOf
  go_enter Tryz.func4, Tryz.ntmps4
  go_wp2_with fail
  refine (HLv.out _ (Env.more (HE.out.below HBX.out) HBX.out.size) (HER.out.below HBX.out)).mono ?_
  rintro e w0 ⟨rfl, hb⟩
  have hS0 : Below (w.heap.size + 1) (w.alloc (.cells #[x0, x1, x2, x3, x4, x5, x6, x7, x8, x9, x10] 29)) w0 := hb.mono (by simp)
  have hZ0 := Nat.le_trans hZ hS0.size
  clear hb
  have e1' : Lie w0 w.heap.size 0 [x0, x1, x2, x3, x4, x5, x6, x7, x8, x9, x10] := fun j y hj => (hS0.cell (p := ⟨w.heap.size, 0 + j, none⟩) (show w.heap.size < _ by omega)).trans (by
    rw [Lib.cell_of_heap (heap_alloc_new w _)]; simpa using hj)
  have q0 := e1' 0 _ rfl
  have q1 := e1' 1 _ rfl
  have q2 := e1' 2 _ rfl
  have q3 := e1' 3 _ rfl
  have q4 := e1' 4 _ rfl
  have q5 := e1' 5 _ rfl
  have q6 := e1' 6 _ rfl
  have q7 := e1' 7 _ rfl
  have q8 := e1' 8 _ rfl
  have q9 := e1' 9 _ rfl
  have q10 := e1' 10 _ rfl
  simp only [Nat.add_zero] at q0
  clear e1'
  go_wp2_with fail
  refine (HBt.out w0 (RdT.more (HBX.out.trans (hS0.mono (by omega))).size _ _ (RdT.below HX.out (HBX.out.trans (hS0.mono (by omega)))))).mono ?_
  rintro e w1 ⟨vb, rfl, hvb, hb⟩
  have hS1 := hS0.trans (hb.mono hZ0)
  have hZ1 := Nat.le_trans hZ hS1.size
  have HFL := Lib.hid (lines_flat (hvb.more (fun b h => h.2)) HF.out)
  have HSZ := Lib.hid (lines_size (hvb.more (fun b h => h.2)) HF.out true)
  have HVB := Lib.hid (hvb.more (fun b h => h.2))
  have ho := hvb.one
  clear hb hvb q0 q1 q2 q3 q4 q5 q6 q7 q8 q9 q10
  go_wp2_with fail
  refine (HPr.out vb w1 HVB.out (Env.more (HE.out.below (HBX.out.trans (hS1.mono (by omega)))) (HBX.out.trans (hS1.mono (by omega))).size)).mono ?_
  rintro e w2 ⟨rfl, hb⟩
  have hS2 := hS1.trans (hb.mono hZ1)
  have hZ2 := Nat.le_trans hZ hS2.size
  have hV2 : Below w1.heap.size w1 w2 := hb
  clear hb
  go_wp2_with fail
  refine (HLi.out vb w2 (Rd.more hV2.size _ _ (Rd.below HVB.out hV2)) (Env.more (HE.out.below (HBX.out.trans (hS2.mono (by omega)))) (HBX.out.trans (hS2.mono (by omega))).size)).mono ?_
  rintro e w3 ⟨rfl, hb⟩
  have hS3 := hS2.trans (hb.mono hZ2)
  clear hb
  have HFLAT := Lib.hid (fun (W : World) => flat_any (printV true (builtV T)).1 W HSZ.out)
  rw [HFL.out] at HFLAT
  rw [print_why, print_why]
  generalize (checkV (builtV T)).2 = n at *
  have hst : (⟨(printV false (builtV T)).1.data.toList.toArray⟩ : ByteArray) = (printV false (builtV T)).1 := by simp
  unfold TextPost at HFLAT
  rw [hst] at HFLAT
  clear HFL HPr HLi HBt hst
  generalize (printV false (builtV T)).1 = pa at *
  generalize (printV true (builtV T)).1 = pb at *
  go_wp2_with fail
  refine (HFLAT.out w3).mono ?_
  rintro e w4 ⟨rfl, hb⟩
  go_wp2_with fail
  go_ret
  exact ⟨rfl, HBX.out.trans ((hS3.trans (hb.mono (by have := hS3.size; omega))).mono (by omega))⟩
end Go.Proofs.YtobpkelblpdajaaGreatDoor
/- What the listed variables hold, out of the row's condition. -/
namespace Go.Proofs.YtobpkelblpdajaaGreatDoor
open Go Go.RowKit
theorem glt {W : World} {b o : Nat} {v : Value} (h : W.cell? ⟨b, o, none⟩ = some v) : b < W.heap.size := World.block_lt_of_cell? _ _ h
theorem two_of {cs : List Value} (h : cs.length = 2) : ∃ a b, cs = [a, b] := by
  match cs, h with
  | [a, b], _ => exact ⟨a, b, rfl⟩
theorem ten_of {cs : List Value} (h : cs.length = 10) : ∃ d0 d1 d2 d3 d4 d5 d6 d7 d8 d9, cs = [d0, d1, d2, d3, d4, d5, d6, d7, d8, d9] := by
  match cs, h with
  | [d0, d1, d2, d3, d4, d5, d6, d7, d8, d9], _ => exact ⟨d0, d1, d2, d3, d4, d5, d6, d7, d8, d9, rfl⟩
theorem escPair {W : World} {fuel : Nat} {cs : List Value} {a b : Int} {p : List MemPlace} (h : DataW.trod (fun _ => ()) Tryz.prog W 0 (fun _ => true) false fuel 238 cs = some (.agg [.lit (.int .u8 a), .lit (.int .u8 b)], p)) : cs = [.int .u8 a, .int .u8 b] := by
  obtain ⟨y0, y1, n, hx, hl, h0, h1⟩ := ChangeShapes.trod_struct2 Tryz.underlying238 h
  have k2 : Tryz.prog.cellsOf 238 = 2 := by kernel_rfl
  have k1 : Tryz.prog.cellsOf 5 = 1 := by kernel_rfl
  rw [k2] at hl
  obtain ⟨c0, c1, rfl⟩ := two_of hl
  clear k2
  · simp only [k1, List.drop_zero, List.take_succ_cons, List.take_zero, List.drop_succ_cons] at h0 h1
    obtain ⟨z0, e0, rfl, -⟩ := DataW.trod_int Tryz.underlying5 h0
    obtain ⟨z1, e1, rfl, -⟩ := DataW.trod_int Tryz.underlying5 h1
    simp at hx e0 e1
    obtain ⟨⟨rfl, rfl⟩, -⟩ := hx
    rw [e0, e1]
theorem esc_cells {W : World} {fuel : Nat} {cs : List Value} {p : List MemPlace} (h : DataW.trod (fun _ => ()) Tryz.prog W 0 (fun _ => true) false fuel 239 cs = some (Rows.laid_tenon_text_escapes, p)) : cs = escTab.map fun x => Value.int .u8 x := by
  have k2 : Tryz.prog.cellsOf 238 = 2 := by kernel_rfl
  have k10 : Tryz.prog.cellsOf 239 = 10 := by kernel_rfl
  cases fuel with
  | zero => simp [DataW.trod] at h
  | succ fuel =>
    simp only [DataW.trod, Tryz.underlying239, k2, k10] at h
    split at h
    · rename_i hl
      have hl10 : cs.length = 10 := by omega
      obtain ⟨xs, hm, hx⟩ := Option.map_eq_some_iff.1 h
      have hxs : xs.map (·.1) = [.agg [.lit (.int .u8 34), .lit (.int .u8 34)], .agg [.lit (.int .u8 92), .lit (.int .u8 92)], .agg [.lit (.int .u8 10), .lit (.int .u8 110)], .agg [.lit (.int .u8 9), .lit (.int .u8 116)], .agg [.lit (.int .u8 13), .lit (.int .u8 114)]] := by
        have := congrArg Prod.fst hx
        simpa [Rows.laid_tenon_text_escapes] using this
      have key : ∀ (i : Nat) (a b : Int), i < 5 → (xs.map (·.1))[i]? = some (.agg [.lit (.int .u8 a), .lit (.int .u8 b)]) → (cs.drop (i * 2)).take 2 = [.int .u8 a, .int .u8 b] := by
        intro i a b hi hab
        obtain ⟨y, hy, hf⟩ := Lib.mapM_at hm i i (by simp [hi])
        rw [List.getElem?_map, hy] at hab
        obtain ⟨y1, y2⟩ := y
        simp at hab
        subst hab
        exact escPair hf
      have c0 := key 0 34 34 (by decide) (by rw [hxs]; rfl)
      have c1 := key 1 92 92 (by decide) (by rw [hxs]; rfl)
      have c2 := key 2 10 110 (by decide) (by rw [hxs]; rfl)
      have c3 := key 3 9 116 (by decide) (by rw [hxs]; rfl)
      have c4 := key 4 13 114 (by decide) (by rw [hxs]; rfl)
      obtain ⟨d0, d1, d2, d3, d4, d5, d6, d7, d8, d9, rfl⟩ := ten_of hl10
      · simp at c0 c1 c2 c3 c4
        obtain ⟨rfl, rfl⟩ := c0
        obtain ⟨rfl, rfl⟩ := c1
        obtain ⟨rfl, rfl⟩ := c2
        obtain ⟨rfl, rfl⟩ := c3
        obtain ⟨rfl, rfl⟩ := c4
        rfl
    · cases h
theorem env_of {laid : List (String × DataW Unit)} {W : World} (h : laidMet Tryz.prog laid W) (h1 : ("tenon/text.escapes", Rows.laid_tenon_text_escapes) ∈ laid) (h2 : ("internal/strconv.uint64pow10", Rows.laid_internal_strconv_uint64pow10) ∈ laid) (h3 : ("math/bits.deBruijn64tab", Rows.laid_math_bits_deBruijn64tab) ∈ laid) : Env W W.heap.size := by
  have e1 : ∀ (j : Nat) (x : Int), escTab[j]? = some x → W.cell? ⟨1, j, none⟩ = some (.int .u8 x) := by
    obtain ⟨g, t, cs, fuel, p, hg, ht, hv, hd⟩ := Lib.laidMet.reads h h1
    have hg2 : Tryz.prog.globalNamed "tenon/text.escapes" = some 1 := by kernel_rfl
    obtain rfl := Option.some.inj (hg2.symm.trans hg)
    have ht2 : (Tryz.prog.globals[1]?).map (·.type) = some 239 := by kernel_rfl
    obtain rfl := Option.some.inj (ht2.symm.trans ht)
    have hcs := esc_cells hd
    intro j x hj
    rw [World.var?_cell hg hv j, ← Array.getElem?_toList, hcs, List.getElem?_map, hj]
    rfl
  have e2 : Lib.TabIs Tryz.prog W "internal/strconv.uint64pow10" .u64 Lib.pow10Tab := by
    obtain ⟨g, t, cs, fuel, p, hg, ht, hv, hd⟩ := Lib.laidMet.reads h h2
    obtain rfl := Option.some.inj (Tryz.gPow.symm.trans hg)
    have ht2 : (Tryz.prog.globals[4]?).map (·.type) = some 376 := by kernel_rfl
    obtain rfl := Option.some.inj (ht2.symm.trans ht)
    unfold Lib.TabIs
    rw [hv, ← Lib.cells_of_tab (zs := Lib.pow10Tab) (k := .u64) (n := 20) Tryz.underlying376 Tryz.underlying24 (by kernel_rfl) (by kernel_rfl) (by rw [show (Lib.tabData .u64 Lib.pow10Tab : DataW Unit) = Rows.laid_internal_strconv_uint64pow10 from rfl]; exact hd)]
  have e3 : W.cell? ⟨10, 15, none⟩ = some (.int .u8 4) := by
    obtain ⟨g, t, cs, fuel, p, hg, ht, hv, hd⟩ := Lib.laidMet.reads h h3
    have hg2 : Tryz.prog.globalNamed "math/bits.deBruijn64tab" = some 10 := by kernel_rfl
    obtain rfl := Option.some.inj (hg2.symm.trans hg)
    have ht2 : (Tryz.prog.globals[10]?).map (·.type) = some 430 := by kernel_rfl
    obtain rfl := Option.some.inj (ht2.symm.trans ht)
    have hcs := Lib.cells_of_tab (zs := [0, 1, 56, 2, 57, 49, 28, 3, 61, 58, 42, 50, 38, 29, 17, 4, 62, 47, 59, 36, 45, 43, 51, 22, 53, 39, 33, 30, 24, 18, 12, 5, 63, 55, 48, 27, 60, 41, 37, 16, 46, 35, 44, 21, 52, 32, 23, 11, 54, 26, 40, 15, 34, 20, 31, 10, 25, 14, 19, 9, 13, 8, 7, 6]) (k := .u8) (n := 64) Tryz.underlying430 Tryz.underlying5 (by kernel_rfl) (by kernel_rfl) (by rw [show (Lib.tabData .u8 [0, 1, 56, 2, 57, 49, 28, 3, 61, 58, 42, 50, 38, 29, 17, 4, 62, 47, 59, 36, 45, 43, 51, 22, 53, 39, 33, 30, 24, 18, 12, 5, 63, 55, 48, 27, 60, 41, 37, 16, 46, 35, 44, 21, 52, 32, 23, 11, 54, 26, 40, 15, 34, 20, 31, 10, 25, 14, 19, 9, 13, 8, 7, 6] : DataW Unit) = Rows.laid_math_bits_deBruijn64tab from rfl]; exact hd)
    rw [World.var?_cell hg hv 15, ← Array.getElem?_toList, hcs]
    rfl
  have b1 := glt (e1 0 34 rfl)
  have b2 := glt (Lib.TabIs.cell e2 Tryz.gPow 0 (by rw [Lib.pow10Tab_length]; decide))
  have b3 := glt e3
  exact ⟨⟨b1, e1⟩, ⟨b2, e2⟩, ⟨b3, e3⟩, b1, b2, b3⟩
end Go.Proofs.YtobpkelblpdajaaGreatDoor
/- The sentinels, out of the row's condition. -/
namespace Go.Proofs.YtobpkelblpdajaaGreatDoor
open Go Go.RowKit
theorem face_of {laid : List (String × DataW Unit)} {W : World} {nm tn : String} {d : DataW Unit} {g ty : Nat} {ms : Array (String × TypeId)} (h : laidMet Tryz.prog laid W) (h1 : (nm, DataW.iface tn d) ∈ laid) (hg2 : Tryz.prog.globalNamed nm = some g) (ht2 : (Tryz.prog.globals[g]?).map (·.type) = some ty) (hi : Tryz.prog.underlying ty = some (.interface ms)) : ∃ ev, W.cell? ⟨g, 0, none⟩ = some ev ∧ Face ev := by
  obtain ⟨g', t, cs, fuel, p, hg, ht, hv, hd⟩ := Lib.laidMet.reads h h1
  obtain rfl := Option.some.inj (hg2.symm.trans hg)
  obtain rfl := Option.some.inj (ht2.symm.trans ht)
  obtain ⟨f2, u, v, hcs, -, -⟩ := iface_of_trod hi hd
  exact ⟨.iface u v, by rw [World.var?_cell hg hv 0, ← Array.getElem?_toList, hcs]; rfl, .inr ⟨u, v, rfl⟩⟩
theorem errs_of {laid : List (String × DataW Unit)} {W : World} {tn un : String} {d e : DataW Unit} (h : laidMet Tryz.prog laid W) (h1 : ("strconv.ErrSyntax", DataW.iface tn d) ∈ laid) (h2 : ("strconv.ErrRange", DataW.iface un e) ∈ laid) : Errs W :=
  ⟨face_of h h1 (g := 7) (ty := 256) (by kernel_rfl) (by kernel_rfl) Tryz.underlying256, face_of h h2 (g := 8) (ty := 256) (by kernel_rfl) (by kernel_rfl) Tryz.underlying256⟩
end Go.Proofs.YtobpkelblpdajaaGreatDoor
/- Whatever the term: the lines that text.Lines prints, laid on one line, are the text that text.Print prints, and both tell the same error. The row is proved, then the card that ties the listed variables to the program's text. No condition. -/
namespace Go.Proofs.YtobpkelblpdajaaGreatDoor.textLines
open Go Go.ChangeShapes Go.WideShapes Go.ChangeAt Go.RowKit Go.Joins Go.Deep
open Go.ChangeMaps (open_string shut_string)
theorem own : ownKnob Tryz.prog.godebug = none := by kernel_rfl
theorem laidOut : laidOutB Tryz.prog = true := by kernel_rfl
theorem agg_of {v : Value} {n : Nat} (h : v.cells.toList.length = n) (hn : n ≠ 1) : v = termOf v.cells.toList := by
  cases v <;> first | rfl | (exact absurd h (by simpa [Value.cells] using (Ne.symm hn)))
set_option maxRecDepth 100000 in
theorem lifted (os : Os) (started : os.Started) (H : Type) (enc : TypeId × Value → H) :
    ReturnsInHanded {} Tryz.checked os 4 .any (fun w args => (Rows.textLinesSpec.pre enc Tryz.prog Tryz.f4 [] false w args ∧ laidMetH Tryz.prog Rows.textLinesRow.laid w) ∧ sizedMet enc Tryz.prog Tryz.f4 (OpenSpec.ofChange Rows.textLinesSpec) false w args)
      (Rows.textLinesSpec.post enc Tryz.prog Tryz.f4 false true false false) := by
  refine returnsInHanded_of_change_and (C := Tryz.checked) (X := fun w _ => laidMetH Tryz.prog Rows.textLinesRow.laid w) (fun _ _ _ hh h => h.of_heap hh) own started (by kernel_rfl) Tryz.func4
    (ChangeSpec.witness_shaped (enc := enc) (C := Tryz.checked) (os := os) (X := fun w _ => laidMetH Tryz.prog Rows.textLinesRow.laid w) false (World.laidAll Tryz.prog os Rows.textLinesRow.laid) #[.agg #[.int .i64 0, .bool false, .int .i64 0, .float .f64 0, .string ByteArray.empty, .slice none 0 0, .int .u64 0, .slice none 0 0, .slice none 0 0, .string ByteArray.empty, .int .i64 0]] 8 (World.laidAll_os _ _ _)
      (World.shaped_of_ZipB (by kernel_rfl) (by kernel_rfl)) (by kernel_rfl) (by kernel_rfl) (by kernel_rfl)
      (by rw [MakeChecks.laidMetH_plain _ _ _ (by kernel_rfl)]; exact laidMet_laidAll _ (by kernel_rfl) (by kernel_rfl))) ?_
  intro W base args ds gs before hval0 hW _ hsz0 hL _
  have hval : ∀ (j : Nat) t v, Tryz.f4.params[j]? = some t → args[j]? = some v → Value.okWide Tryz.prog W .any base t v := hval0
  have hW' := hW
  obtain ⟨p, q, hA0, hV, rfl, hfz, hnd⟩ := hW
  have hA : DataW.TrodAll enc Tryz.prog W 0 (fun _ => true) true Tryz.f4.params.toList args.toList ds p := hA0
  rw [Tryz.params4] at hA hval
  obtain ⟨v0, vs0, d0, ds0, p0, q0, hargs, rfl, rfl, h0, r0⟩ := trodAll_cons hA
  obtain ⟨rfl, rfl, rfl⟩ := trodAll_nil r0
  obtain ⟨rfl, rfl⟩ := trodVars_none hV
  have hargs2 : args = #[v0] := by
    cases args with
    | mk l => exact congrArg Array.mk hargs
  subst hargs2
  have hsz : ∀ m ∈ DataW.weightsEach Tryz.prog [29] [d0], m ≤ reachBytes := by
    intro m hm
    have h1 : (DataW.weightsEach Tryz.prog [29] [d0]).all (fun x => decide (x ≤ reachBytes)) = true := hsz0
    exact of_decide_eq_true (List.all_eq_true.1 h1 m hm)
  have hlt : ∀ x ∈ (p0 ++ []) ++ [], x.block < W.heap.size := fun x hx => by simpa using hW'.lt x hx
  have a0 : DataW.Trod enc Tryz.prog W 0 (fun _ => true) true 29 v0 d0 p0 := h0
  obtain ⟨n0, t0⟩ := h0
  obtain ⟨x0, hx0, hft0⟩ := open_tmF _ _ _ t0 (fun m hm => hsz m (weightsEach_mem (i := 0) rfl rfl m hm))
  have e0 := agg_of (v := v0) (n := 11) (by obtain ⟨c0, c1, c2, c3, c4, c5, c6, c7, c8, c9, c10, h, -⟩ := hx0.eleven; rw [h]; rfl) (by decide)
  have hmet : laidMet Tryz.prog Rows.textLinesRow.laid W := by have h := hL; rw [MakeChecks.laidMetH_plain _ _ _ (by kernel_rfl)] at h; exact h
  have henv : Env W W.heap.size := env_of hmet (List.mem_of_getElem? (i := 11) rfl) (List.mem_of_getElem? (i := 8) rfl) (List.mem_of_getElem? (i := 1) rfl)
  have herr : Errs W := errs_of hmet (List.mem_of_getElem? (i := 10) rfl) (List.mem_of_getElem? (i := 9) rfl)
  have hlaw : Calls Tryz.prog 4 #[v0] W (BoolPost true W) := by
    rw [e0]
    exact lines_law x0 _ W hx0 hft0 henv herr
  have e1 : Rows.textLinesSpec.fn H ([d0] ++ []) = { results := [.lit (.bool true)], args := [d0] } := by simp [Rows.textLinesSpec]
  refine hlaw.mono fun e W' ⟨he, hb⟩ => ?_
  subst he
  refine ⟨_, rfl, _, _, _, [], p0 ++ [], [], hW', ?_, ?_, ?_, hb.frame _, fun h => by cases h⟩
  · rw [e1]; exact trodAll_mk1 (shut_bool Tryz.underlying4 true)
  · rw [e1]
    have hbt := fun (t : TypeId) (v : Value) (d : DataW H) (pp : List MemPlace) (hr : Tryz.prog.readableRec t = true) (hrow : t < Tryz.prog.types.size) (h : DataW.Trod enc Tryz.prog W 0 (fun _ => true) true t v d pp) (hl : ∀ x ∈ pp, x.block < W.heap.size) => Below.trod laidOut hr hrow h hb hl
    exact trodAll_cons_mk (hbt 29 v0 d0 p0 (by kernel_rfl) (of_decide_eq_true (by kernel_rfl)) a0 (fun x hx => hlt x (by simp [hx]))) (trodAll_mk0)
  · rw [e1]; rfl
end Go.Proofs.YtobpkelblpdajaaGreatDoor.textLines
/- The row, out of its lifted proof. -/
namespace Go.Proofs.YtobpkelblpdajaaGreatDoor.textLines
open Go Go.ChangeShapes Go.WideShapes Go.ChangeAt Go.RowKit Go.Joins Go.Deep
open Go.ChangeMaps (open_string shut_string)
theorem kLaid : laidOutB Tryz.prog = true := by kernel_rfl
theorem kMaps : mapsRowed Tryz.prog = true := by kernel_rfl
theorem kPlace : (Rows.textLinesRow.inPlace == Tryz.prog.inPlace 4) = true := by kernel_rfl
theorem kUnf : (Rows.textLinesRow.unfollowed == Tryz.prog.unfollowed 4) = true := by kernel_rfl
theorem kRec : (Rows.textLinesRow.recurses == Tryz.prog.recurses 4) = true := by kernel_rfl
theorem kNamed : (Rows.textLinesRow.named == Tryz.prog.varsNamed 4) = true := by kernel_rfl
theorem kName : Tryz.pinned.checked.prog.funcNamed Rows.textLinesRow.func = some 4 := by kernel_rfl
theorem closed : joinedFacts Tryz.prog 4 Tryz.f4 Rows.textLinesSpec Rows.textLinesRow = true := by
  unfold joinedFacts
  rw [kLaid, kMaps, kPlace, kUnf, kRec, kNamed]
  kernel_rfl
theorem over : Rows.TextLinesSaid :=
  OpenClaim.holds_of_wide 4 Tryz.f4 rfl rfl rfl rfl rfl rfl rfl ⟨rfl, rfl, rfl, rfl, rfl⟩ rfl rfl rfl rfl rfl kName Tryz.func4 closed
    (of_decide_eq_true (by kernel_rfl)) (by unfold Func.isWrapper; first | (rw [if_pos (by decide +kernel)]; kernel_rfl) | (rw [if_neg (by decide +kernel)]; exact ⟨rfl, rfl⟩))
    (fun os started H enc _ => lifted os started H enc)
end Go.Proofs.YtobpkelblpdajaaGreatDoor.textLines
/- Whatever the term: the lines that text.Lines prints, laid on one line, are the text that text.Print prints, and both tell the same error. The row is proved, then the card that ties the listed variables to the program's text. No condition. -/
namespace Go.Proofs.YtobpkelblpdajaaGreatDoor.textLines
open Go Go.ChangeShapes Go.WideShapes Go.ChangeAt Go.RowKit Go.Joins Go.Deep
open Go.ChangeMaps (open_string shut_string)
theorem kWf : Rows.textLinesRow.wfByText (OpenSpec.ofChange Rows.textLinesSpec) = true := by kernel_rfl
theorem kMain : Tryz.pinned.checked.prog.mainIs = some (true, "1e7af884c82236b1f819144138f9f70fb0ce697dc9e161157c72eaba5b7c3a2f".toList) := by kernel_rfl
theorem kLooks : true = Tryz.prog.looks [] := by kernel_rfl
theorem kGoes : false = Rows.textLinesRow.goesBy Tryz.prog := by kernel_rfl
theorem kStand : ([29].all fun u => !Tryz.prog.wantsStandIn u) = true := by kernel_rfl
theorem kFunc : Tryz.prog.funcNamed "tenon/tenonlaw02.TextLines" = some 4 := by kernel_rfl
theorem proved : Rows.TextLinesCardSaid :=
  Claim7.holds_tied_plain_at .later [] [.data, .data, .widerDeep, .widerDeep, .data, .data, .data, .data, .data, .sentinel, .sentinel, .data, .pinned, .pinned] true (true, "1e7af884c82236b1f819144138f9f70fb0ce697dc9e161157c72eaba5b7c3a2f") true
    over (fun _ h => by cases h) kWf (fun _ h => by cases h) textLines_row_tie rfl ⟨rfl, rfl⟩ kMain rfl
    (fun f fn hf hfn => by
      obtain rfl : f = 4 := Option.some.inj (kFunc.symm.trans hf) |>.symm
      obtain rfl : fn = Tryz.f4 := (Option.some.inj (Tryz.func4.symm.trans hfn)).symm
      exact ⟨kLooks, fun j t ht => by
        rw [Tryz.params4] at ht
        have hm : t ∈ [29] := by simpa using Array.mem_of_getElem? ht
        exact (show Tryz.prog.wantsStandIn t = false by simpa using List.all_eq_true.1 kStand t hm)⟩)
    kGoes
#print axioms proved
end Go.Proofs.YtobpkelblpdajaaGreatDoor.textLines
