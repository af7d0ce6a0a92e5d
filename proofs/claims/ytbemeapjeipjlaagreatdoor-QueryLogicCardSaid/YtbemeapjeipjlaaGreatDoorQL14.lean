/- Walks: query.exact, ahead, behind. -/
import Derived.Test.YtbemeapjeipjlaaGreatDoorQL13
set_option linter.unusedVariables false
set_option linter.unusedSimpArgs false
namespace Go.Proofs.YtbemeapjeipjlaaGreatDoor
open Go Go.RowKit
open Ieee (Datum Toward)
def geF (x y : Nat) : Bool := FloatKind.f64.format.order x y == some .gt || FloatKind.f64.format.order x y == some .eq
def ltF (x y : Nat) : Bool := FloatKind.f64.format.order x y == some .lt
def eqF (x y : Nat) : Bool := FloatKind.f64.format.order x y == some .eq
theorem nan_order {x y s t : Nat} {n : Bool} (h : FloatKind.f64.decode x = .nan n t) : FloatKind.f64.format.order x y = none := by
  change (Ieee.double.read x).order _ = none
  rw [show Ieee.double.read x = .nan n t from h]; rfl
theorem ge_lt {x y : Nat} (h : geF x y = true) : ordF x y ≠ some .lt := by
  intro h2
  have h2' : FloatKind.f64.format.order x y = some .lt := h2
  unfold geF at h
  rw [h2'] at h; cases h
theorem ltF_iff {x y : Nat} (h : ltF x y = true) : ordF x y = some .lt := by
  unfold ltF at h; exact eq_of_beq h
theorem ltF_no {x y : Nat} (h : ltF x y = false) : ordF x y ≠ some .lt := by
  intro h2
  have h2' : FloatKind.f64.format.order x y = some .lt := h2
  unfold ltF at h
  rw [h2'] at h; cases h
theorem lt_num {x y : Nat} (h : ltF x y = true) : ∀ s t, FloatKind.f64.decode x ≠ .nan s t := by
  intro s t hd
  have h0 := ltF_iff h
  have h1 : ordF x y = none := nan_order (s := 0) hd
  rw [h1] at h0; cases h0
/- A float that is no NaN, not at or above a number, is below it. -/
theorem ge_no {x : Nat} (hn : ∀ s t, FloatKind.f64.decode x ≠ .nan s t) {y : Nat} (hy : ∀ s t, FloatKind.f64.decode y ≠ .nan s t) (h : geF x y = false) : ordF x y = some .lt := by
  unfold geF at h
  have hne : FloatKind.f64.format.order x y ≠ none := by
    change (Ieee.double.read x).order (Ieee.double.read y) ≠ none
    change ∀ s t, Ieee.double.read x ≠ _ at hn
    change ∀ s t, Ieee.double.read y ≠ _ at hy
    generalize Ieee.double.read x = d at *
    generalize Ieee.double.read y = e at *
    cases d <;> cases e <;> first | (exact absurd rfl (hn _ _)) | (exact absurd rfl (hy _ _)) | (simp [Datum.order])
  change FloatKind.f64.format.order x y = some .lt
  cases hq : FloatKind.f64.format.order x y with
  | none => exact absurd hq hne
  | some o => rw [hq] at h; cases o <;> first | rfl | cases h
theorem to_int_val {x : Nat} {n : Int} (h : (FloatKind.f64.decode x).toInt .zero = some n) (h1 : -9223372036854775808 ≤ n) (h2 : n < 9223372036854775808) : floatToIntVal .f64 x .i64 = some n := by
  unfold floatToIntVal
  rw [h]
  simp only
  rw [if_pos]
  have e1 : IntKind.i64.min = -9223372036854775808 := by decide
  have e2 : IntKind.i64.max = 9223372036854775807 := by decide
  rw [e1, e2]; omega
theorem run_to_int (x : Nat) (n : Int) (w : World) (h : floatToIntVal .f64 x .i64 = some n) : (convert 23 2 (.float .f64 x)).run Tryz.prog w = .ok (.int .i64 n) w :=
  run_convert_float_int w 23 2 .f64 .i64 x n (by rw [Tryz.underlying23]; rfl) Tryz.underlying2 h
/- A float as an int, if it is one. -/
def exactV (x : Nat) : Option Int := if geF x 14114281232179134464 = true then if ltF x 4890909195324358656 = true then if eqF x (wholeF .zero x) = true then (FloatKind.f64.decode x).toInt .zero else none else none else none
def PairPost (r : Option Int) (w : World) (e : Ending) (w' : World) : Prop := e = .returned (.tuple #[.int .i64 (r.getD 0), .bool r.isSome]) ∧ w = w'
set_option maxRecDepth 100000 in
set_option maxHeartbeats 1000000 in
theorem exact_any (x : Nat) (w : World) : Calls Tryz.prog 134 #[.float .f64 x] w (PairPost (exactV x) w) := by
  cases h1 : geF x 14114281232179134464
  · have HR : Hid (exactV x = none) := Lib.hid (by unfold exactV; rw [h1]; rfl)
    unfold geF at h1
    go_enter Tryz.func134, Tryz.ntmps134
    go_wp2
    go_ret2
    exact ⟨by rw [HR.out]; rfl, rfl⟩
  cases h2 : ltF x 4890909195324358656
  · have HR : Hid (exactV x = none) := Lib.hid (by unfold exactV; rw [h1, h2]; rfl)
    unfold geF at h1
    unfold ltF at h2
    go_enter Tryz.func134, Tryz.ntmps134
    go_wp2
    go_ret2
    exact ⟨by rw [HR.out]; rfl, rfl⟩
  have hn := lt_num h2
  obtain ⟨n, hn1, hn2, hn3⟩ := in_range .zero hn (ge_lt h1) (ltF_iff h2)
  have HT := Lib.hid (mathTrunc_any x w hn)
  cases h3 : eqF x (wholeF .zero x)
  · have HR : Hid (exactV x = none) := Lib.hid (by unfold exactV; rw [h1, h2, h3]; rfl)
    unfold geF at h1
    unfold ltF at h2
    unfold eqF at h3
    go_enter Tryz.func134, Tryz.ntmps134
    go_wp2_with fail
    refine HT.out.mono ?_
    rintro e w1 ⟨rfl, rfl⟩
    go_wp2
    go_ret2
    exact ⟨by rw [HR.out]; rfl, rfl⟩
  · have HR : Hid (exactV x = some n) := Lib.hid (by unfold exactV; rw [h1, h2, h3]; exact hn1)
    have k0 := fun w => run_to_int x n w (to_int_val hn1 hn2 hn3)
    clear hn1 hn2 hn3 hn
    unfold geF at h1
    unfold ltF at h2
    unfold eqF at h3
    go_enter Tryz.func134, Tryz.ntmps134
    go_wp2_with fail
    refine HT.out.mono ?_
    rintro e w1 ⟨rfl, rfl⟩
    go_wp2
    go_ret2
    exact ⟨by rw [HR.out]; rfl, rfl⟩
theorem read_high_num : ∀ s t, FloatKind.f64.decode 4890909195324358656 ≠ .nan s t := by
  intro s t h
  have h' : Ieee.double.read 4890909195324358656 = .nan s t := h
  rw [read_high] at h'; cases h'
/- Whether a float is below an int, and above one. -/
def aheadV (x : Nat) (n : Int) : Bool := if nanB x = true then false else if ltF x 14114281232179134464 = true then true else if geF x 4890909195324358656 = true then false else decide ((((FloatKind.f64.decode x).toInt .down).getD 0) < n)
def behindV (x : Nat) (n : Int) : Bool := if nanB x = true then false else if ltF x 14114281232179134464 = true then false else if geF x 4890909195324358656 = true then true else decide (n < (((FloatKind.f64.decode x).toInt .up).getD 0)) || geF (wholeF .up x) 4890909195324358656
set_option maxRecDepth 100000 in
set_option maxHeartbeats 1000000 in
theorem ahead_any (x : Nat) (n : Int) (w : World) : Calls Tryz.prog 139 #[.float .f64 x, .int .i64 n] w (fun e w' => e = .returned (.bool (aheadV x n)) ∧ w = w') := by
  have HN := Lib.hid (isNaN_any x w)
  cases h0 : nanB x
  case true =>
    have HR : Hid (aheadV x n = false) := Lib.hid (by unfold aheadV; rw [h0]; rfl)
    rw [h0] at HN
    clear h0
    go_enter Tryz.func139, Tryz.ntmps139
    go_wp2_with fail
    refine HN.out.mono ?_
    rintro e w1 ⟨rfl, rfl⟩
    go_wp2
    go_ret
    exact ⟨ret_bool HR.out.symm, rfl⟩
  case false =>
  cases h1 : ltF x 14114281232179134464
  case true =>
    have HR : Hid (aheadV x n = true) := Lib.hid (by unfold aheadV; rw [h0, h1]; rfl)
    rw [h0] at HN
    clear h0
    unfold ltF at h1
    go_enter Tryz.func139, Tryz.ntmps139
    go_wp2_with fail
    refine HN.out.mono ?_
    rintro e w1 ⟨rfl, rfl⟩
    go_wp2
    go_ret
    exact ⟨ret_bool HR.out.symm, rfl⟩
  case false =>
  cases h2 : geF x 4890909195324358656
  case true =>
    have HR : Hid (aheadV x n = false) := Lib.hid (by unfold aheadV; rw [h0, h1, h2]; rfl)
    rw [h0] at HN
    clear h0
    unfold ltF at h1
    unfold geF at h2
    go_enter Tryz.func139, Tryz.ntmps139
    go_wp2_with fail
    refine HN.out.mono ?_
    rintro e w1 ⟨rfl, rfl⟩
    go_wp2
    go_ret
    exact ⟨ret_bool HR.out.symm, rfl⟩
  case false =>
  have hn := not_nan h0
  obtain ⟨m, hm1, hm2, hm3⟩ := in_range .down hn (ltF_no h1) (ge_no hn read_high_num h2)
  have HT := Lib.hid (mathFloor_any x w hn)
  have k0 := fun w => run_to_int (wholeF .down x) m w (to_int_val (whole_back .down x m hm1 hm2 (by omega)) hm2 hm3)
  have HR : Hid (aheadV x n = decide (m < n)) := Lib.hid (by unfold aheadV; rw [h0, h1, h2, hm1]; rfl)
  rw [h0] at HN
  clear h0 hm1 hm2 hm3 hn
  unfold ltF at h1
  unfold geF at h2
  go_enter Tryz.func139, Tryz.ntmps139
  go_wp2_with fail
  refine HN.out.mono ?_
  rintro e w1 ⟨rfl, rfl⟩
  go_wp2_with fail
  refine HT.out.mono ?_
  rintro e w1 ⟨rfl, rfl⟩
  go_wp2
  go_ret
  exact ⟨ret_bool HR.out.symm, rfl⟩
set_option maxRecDepth 100000 in
set_option maxHeartbeats 1000000 in
theorem behind_any (x : Nat) (n : Int) (w : World) : Calls Tryz.prog 138 #[.float .f64 x, .int .i64 n] w (fun e w' => e = .returned (.bool (behindV x n)) ∧ w = w') := by
  have HN := Lib.hid (isNaN_any x w)
  cases h0 : nanB x
  case true =>
    have HR : Hid (behindV x n = false) := Lib.hid (by unfold behindV; rw [h0]; rfl)
    rw [h0] at HN
    clear h0
    go_enter Tryz.func138, Tryz.ntmps138
    go_wp2_with fail
    refine HN.out.mono ?_
    rintro e w1 ⟨rfl, rfl⟩
    go_wp2
    go_ret
    exact ⟨ret_bool HR.out.symm, rfl⟩
  case false =>
  cases h1 : ltF x 14114281232179134464
  case true =>
    have HR : Hid (behindV x n = false) := Lib.hid (by unfold behindV; rw [h0, h1]; rfl)
    rw [h0] at HN
    clear h0
    unfold ltF at h1
    go_enter Tryz.func138, Tryz.ntmps138
    go_wp2_with fail
    refine HN.out.mono ?_
    rintro e w1 ⟨rfl, rfl⟩
    go_wp2
    go_ret
    exact ⟨ret_bool HR.out.symm, rfl⟩
  case false =>
  cases h2 : geF x 4890909195324358656
  case true =>
    have HR : Hid (behindV x n = true) := Lib.hid (by unfold behindV; rw [h0, h1, h2]; rfl)
    rw [h0] at HN
    clear h0
    unfold ltF at h1
    unfold geF at h2
    go_enter Tryz.func138, Tryz.ntmps138
    go_wp2_with fail
    refine HN.out.mono ?_
    rintro e w1 ⟨rfl, rfl⟩
    go_wp2
    go_ret
    exact ⟨ret_bool HR.out.symm, rfl⟩
  case false =>
  have hn := not_nan h0
  obtain ⟨m, hm1, hm2, hm3⟩ := in_range .up hn (ltF_no h1) (ge_no hn read_high_num h2)
  have HT := Lib.hid (mathCeil_any x w hn)
  have k0 := fun w => run_to_int (wholeF .up x) m w (to_int_val (whole_back .up x m hm1 hm2 (by omega)) hm2 hm3)
  have HR : Hid (behindV x n = (decide (n < m) || geF (wholeF .up x) 4890909195324358656)) := Lib.hid (by unfold behindV; rw [h0, h1, h2, hm1]; rfl)
  rw [h0] at HN
  clear h0 hm1 hm2 hm3 hn
  unfold ltF at h1
  unfold geF at h2
  by_cases hlt : n < m
  · replace HR : Hid (behindV x n = true) := Lib.hid (by rw [HR.out, decide_eq_true hlt]; rfl)
    go_enter Tryz.func138, Tryz.ntmps138
    go_wp2_with fail
    refine HN.out.mono ?_
    rintro e w1 ⟨rfl, rfl⟩
    go_wp2_with fail
    refine HT.out.mono ?_
    rintro e w1 ⟨rfl, rfl⟩
    go_wp2
    go_ret
    exact ⟨ret_bool HR.out.symm, rfl⟩
  · go_enter Tryz.func138, Tryz.ntmps138
    go_wp2_with fail
    refine HN.out.mono ?_
    rintro e w1 ⟨rfl, rfl⟩
    go_wp2_with fail
    refine HT.out.mono ?_
    rintro e w1 ⟨rfl, rfl⟩
    go_wp2_with fail
    refine HT.out.mono ?_
    rintro e w1 ⟨rfl, rfl⟩
    go_wp2
    go_ret
    exact ⟨ret_bool (by rw [HR.out]; rfl), rfl⟩
end Go.Proofs.YtbemeapjeipjlaaGreatDoor
/- What an interface holds, asked for a type; walks: query.bad, good, fields, under, field. -/
namespace Go.Proofs.YtbemeapjeipjlaaGreatDoor
open Go Go.RowKit
attribute [local go_sem] ta_no_bool ta_yes_bool ta_nil_bool ta_no_int64 ta_yes_int64 ta_nil_int64 ta_no_flt ta_yes_flt ta_nil_flt ta_no_str ta_yes_str ta_nil_str ta_no_byt ta_yes_byt ta_nil_byt ta_no_ref ta_yes_ref ta_nil_ref ta_no_lst ta_yes_lst ta_nil_lst ta_no_dct ta_yes_dct ta_nil_dct ta_no_rec ta_yes_rec ta_nil_rec
section
variable {w : World} {S : Nat → Prop} {x : V} {v : Value} (h : RdS w S x v) (X : TypeId) (W : World)
include h
theorem not_bool (hk : kindV x ≠ 2) : (Instr.typeAssert v X 4 true).run Tryz.prog W = .ok (.tuple #[.bool false, .bool false]) W := by
  cases x with
  | nil => subst h; exact ta_nil_bool W X
  | bool a => exact absurd rfl hk
  | int a => obtain ⟨rfl, _⟩ := h; exact ta_no_bool W _ X _ (by decide)
  | flt a => subst h; exact ta_no_bool W _ X _ (by decide)
  | text a => obtain ⟨rfl, _⟩ := h; exact ta_no_bool W _ X _ (by decide)
  | bytes a => obtain ⟨A, c, rfl, _⟩ := h; exact ta_no_bool W _ X _ (by decide)
  | ref a => obtain ⟨rfl, _⟩ := h; exact ta_no_bool W _ X _ (by decide)
  | list a => obtain ⟨A, c, rfl, _⟩ := h; exact ta_no_bool W _ X _ (by decide)
  | dict a => obtain ⟨A, c, rfl, _⟩ := h; exact ta_no_bool W _ X _ (by decide)
  | record c ver l => obtain ⟨b, rfl, _⟩ := h; exact ta_no_bool W _ X _ (by decide)
  | nothing => subst h; exact ta_no_bool W _ X _ (by decide)
  | alien => obtain ⟨t, y, rfl, ht⟩ := h; exact ta_no_bool W _ X _ (alienT_ne ht).1
theorem not_int (hk : kindV x ≠ 3) : (Instr.typeAssert v X 2 true).run Tryz.prog W = .ok (.tuple #[.int .i64 0, .bool false]) W := by
  cases x with
  | nil => subst h; exact ta_nil_int64 W X
  | bool a => subst h; exact ta_no_int64 W _ X _ (by decide)
  | int a => exact absurd rfl hk
  | flt a => subst h; exact ta_no_int64 W _ X _ (by decide)
  | text a => obtain ⟨rfl, _⟩ := h; exact ta_no_int64 W _ X _ (by decide)
  | bytes a => obtain ⟨A, c, rfl, _⟩ := h; exact ta_no_int64 W _ X _ (by decide)
  | ref a => obtain ⟨rfl, _⟩ := h; exact ta_no_int64 W _ X _ (by decide)
  | list a => obtain ⟨A, c, rfl, _⟩ := h; exact ta_no_int64 W _ X _ (by decide)
  | dict a => obtain ⟨A, c, rfl, _⟩ := h; exact ta_no_int64 W _ X _ (by decide)
  | record c ver l => obtain ⟨b, rfl, _⟩ := h; exact ta_no_int64 W _ X _ (by decide)
  | nothing => subst h; exact ta_no_int64 W _ X _ (by decide)
  | alien => obtain ⟨t, y, rfl, ht⟩ := h; exact ta_no_int64 W _ X _ (alienT_ne ht).2.1
theorem not_flt (hk : kindV x ≠ 4) : (Instr.typeAssert v X 23 true).run Tryz.prog W = .ok (.tuple #[.float .f64 0, .bool false]) W := by
  cases x with
  | nil => subst h; exact ta_nil_flt W X
  | bool a => subst h; exact ta_no_flt W _ X _ (by decide)
  | int a => obtain ⟨rfl, _⟩ := h; exact ta_no_flt W _ X _ (by decide)
  | flt a => exact absurd rfl hk
  | text a => obtain ⟨rfl, _⟩ := h; exact ta_no_flt W _ X _ (by decide)
  | bytes a => obtain ⟨A, c, rfl, _⟩ := h; exact ta_no_flt W _ X _ (by decide)
  | ref a => obtain ⟨rfl, _⟩ := h; exact ta_no_flt W _ X _ (by decide)
  | list a => obtain ⟨A, c, rfl, _⟩ := h; exact ta_no_flt W _ X _ (by decide)
  | dict a => obtain ⟨A, c, rfl, _⟩ := h; exact ta_no_flt W _ X _ (by decide)
  | record c ver l => obtain ⟨b, rfl, _⟩ := h; exact ta_no_flt W _ X _ (by decide)
  | nothing => subst h; exact ta_no_flt W _ X _ (by decide)
  | alien => obtain ⟨t, y, rfl, ht⟩ := h; exact ta_no_flt W _ X _ (alienT_ne ht).2.2.1
theorem not_text (hk : kindV x ≠ 5) : (Instr.typeAssert v X 9 true).run Tryz.prog W = .ok (.tuple #[.string ⟨#[]⟩, .bool false]) W := by
  cases x with
  | nil => subst h; exact ta_nil_str W X
  | bool a => subst h; exact ta_no_str W _ X _ (by decide)
  | int a => obtain ⟨rfl, _⟩ := h; exact ta_no_str W _ X _ (by decide)
  | flt a => subst h; exact ta_no_str W _ X _ (by decide)
  | text a => exact absurd rfl hk
  | bytes a => obtain ⟨A, c, rfl, _⟩ := h; exact ta_no_str W _ X _ (by decide)
  | ref a => obtain ⟨rfl, _⟩ := h; exact ta_no_str W _ X _ (by decide)
  | list a => obtain ⟨A, c, rfl, _⟩ := h; exact ta_no_str W _ X _ (by decide)
  | dict a => obtain ⟨A, c, rfl, _⟩ := h; exact ta_no_str W _ X _ (by decide)
  | record c ver l => obtain ⟨b, rfl, _⟩ := h; exact ta_no_str W _ X _ (by decide)
  | nothing => subst h; exact ta_no_str W _ X _ (by decide)
  | alien => obtain ⟨t, y, rfl, ht⟩ := h; exact ta_no_str W _ X _ (alienT_ne ht).2.2.2.1
theorem not_bytes (hk : kindV x ≠ 6) : (Instr.typeAssert v X 24 true).run Tryz.prog W = .ok (.tuple #[.slice none 0 0, .bool false]) W := by
  cases x with
  | nil => subst h; exact ta_nil_byt W X
  | bool a => subst h; exact ta_no_byt W _ X _ (by decide)
  | int a => obtain ⟨rfl, _⟩ := h; exact ta_no_byt W _ X _ (by decide)
  | flt a => subst h; exact ta_no_byt W _ X _ (by decide)
  | text a => obtain ⟨rfl, _⟩ := h; exact ta_no_byt W _ X _ (by decide)
  | bytes a => exact absurd rfl hk
  | ref a => obtain ⟨rfl, _⟩ := h; exact ta_no_byt W _ X _ (by decide)
  | list a => obtain ⟨A, c, rfl, _⟩ := h; exact ta_no_byt W _ X _ (by decide)
  | dict a => obtain ⟨A, c, rfl, _⟩ := h; exact ta_no_byt W _ X _ (by decide)
  | record c ver l => obtain ⟨b, rfl, _⟩ := h; exact ta_no_byt W _ X _ (by decide)
  | nothing => subst h; exact ta_no_byt W _ X _ (by decide)
  | alien => obtain ⟨t, y, rfl, ht⟩ := h; exact ta_no_byt W _ X _ (alienT_ne ht).2.2.2.2.1
theorem not_ref (hk : kindV x ≠ 7) : (Instr.typeAssert v X 26 true).run Tryz.prog W = .ok (.tuple #[.int .u64 0, .bool false]) W := by
  cases x with
  | nil => subst h; exact ta_nil_ref W X
  | bool a => subst h; exact ta_no_ref W _ X _ (by decide)
  | int a => obtain ⟨rfl, _⟩ := h; exact ta_no_ref W _ X _ (by decide)
  | flt a => subst h; exact ta_no_ref W _ X _ (by decide)
  | text a => obtain ⟨rfl, _⟩ := h; exact ta_no_ref W _ X _ (by decide)
  | bytes a => obtain ⟨A, c, rfl, _⟩ := h; exact ta_no_ref W _ X _ (by decide)
  | ref a => exact absurd rfl hk
  | list a => obtain ⟨A, c, rfl, _⟩ := h; exact ta_no_ref W _ X _ (by decide)
  | dict a => obtain ⟨A, c, rfl, _⟩ := h; exact ta_no_ref W _ X _ (by decide)
  | record c ver l => obtain ⟨b, rfl, _⟩ := h; exact ta_no_ref W _ X _ (by decide)
  | nothing => subst h; exact ta_no_ref W _ X _ (by decide)
  | alien => obtain ⟨t, y, rfl, ht⟩ := h; exact ta_no_ref W _ X _ (alienT_ne ht).2.2.2.2.2.1
theorem not_list (hk : kindV x ≠ 8) : (Instr.typeAssert v X 73 true).run Tryz.prog W = .ok (.tuple #[.slice none 0 0, .bool false]) W := by
  cases x with
  | nil => subst h; exact ta_nil_lst W X
  | bool a => subst h; exact ta_no_lst W _ X _ (by decide)
  | int a => obtain ⟨rfl, _⟩ := h; exact ta_no_lst W _ X _ (by decide)
  | flt a => subst h; exact ta_no_lst W _ X _ (by decide)
  | text a => obtain ⟨rfl, _⟩ := h; exact ta_no_lst W _ X _ (by decide)
  | bytes a => obtain ⟨A, c, rfl, _⟩ := h; exact ta_no_lst W _ X _ (by decide)
  | ref a => obtain ⟨rfl, _⟩ := h; exact ta_no_lst W _ X _ (by decide)
  | list a => exact absurd rfl hk
  | dict a => obtain ⟨A, c, rfl, _⟩ := h; exact ta_no_lst W _ X _ (by decide)
  | record c ver l => obtain ⟨b, rfl, _⟩ := h; exact ta_no_lst W _ X _ (by decide)
  | nothing => subst h; exact ta_no_lst W _ X _ (by decide)
  | alien => obtain ⟨t, y, rfl, ht⟩ := h; exact ta_no_lst W _ X _ (alienT_ne ht).2.2.2.2.2.2.1
theorem not_dict (hk : kindV x ≠ 9) : (Instr.typeAssert v X 46 true).run Tryz.prog W = .ok (.tuple #[.slice none 0 0, .bool false]) W := by
  cases x with
  | nil => subst h; exact ta_nil_dct W X
  | bool a => subst h; exact ta_no_dct W _ X _ (by decide)
  | int a => obtain ⟨rfl, _⟩ := h; exact ta_no_dct W _ X _ (by decide)
  | flt a => subst h; exact ta_no_dct W _ X _ (by decide)
  | text a => obtain ⟨rfl, _⟩ := h; exact ta_no_dct W _ X _ (by decide)
  | bytes a => obtain ⟨A, c, rfl, _⟩ := h; exact ta_no_dct W _ X _ (by decide)
  | ref a => obtain ⟨rfl, _⟩ := h; exact ta_no_dct W _ X _ (by decide)
  | list a => obtain ⟨A, c, rfl, _⟩ := h; exact ta_no_dct W _ X _ (by decide)
  | dict a => exact absurd rfl hk
  | record c ver l => obtain ⟨b, rfl, _⟩ := h; exact ta_no_dct W _ X _ (by decide)
  | nothing => subst h; exact ta_no_dct W _ X _ (by decide)
  | alien => obtain ⟨t, y, rfl, ht⟩ := h; exact ta_no_dct W _ X _ (alienT_ne ht).2.2.2.2.2.2.2.1
theorem not_record (hk : kindV x ≠ 10) (hk2 : kindV x ≠ 11) : (Instr.typeAssert v X 75 true).run Tryz.prog W = .ok (.tuple #[.pointer none, .bool false]) W := by
  cases x with
  | nil => subst h; exact ta_nil_rec W X
  | bool a => subst h; exact ta_no_rec W _ X _ (by decide)
  | int a => obtain ⟨rfl, _⟩ := h; exact ta_no_rec W _ X _ (by decide)
  | flt a => subst h; exact ta_no_rec W _ X _ (by decide)
  | text a => obtain ⟨rfl, _⟩ := h; exact ta_no_rec W _ X _ (by decide)
  | bytes a => obtain ⟨A, c, rfl, _⟩ := h; exact ta_no_rec W _ X _ (by decide)
  | ref a => obtain ⟨rfl, _⟩ := h; exact ta_no_rec W _ X _ (by decide)
  | list a => obtain ⟨A, c, rfl, _⟩ := h; exact ta_no_rec W _ X _ (by decide)
  | dict a => obtain ⟨A, c, rfl, _⟩ := h; exact ta_no_rec W _ X _ (by decide)
  | record c ver l => exact absurd rfl hk
  | nothing => exact absurd rfl hk2
  | alien => obtain ⟨t, y, rfl, ht⟩ := h; exact ta_no_rec W _ X _ (alienT_ne ht).2.2.2.2.2.2.2.2
end
theorem kind_is_bool {x : V} (h : kindV x = 2) : ∃ a, x = .bool a := by
  cases x <;> first | exact ⟨_, rfl⟩ | exact absurd h (by simp [kindV])
theorem kind_is_int {x : V} (h : kindV x = 3) : ∃ a, x = .int a := by
  cases x <;> first | exact ⟨_, rfl⟩ | exact absurd h (by simp [kindV])
theorem kind_is_flt {x : V} (h : kindV x = 4) : ∃ a, x = .flt a := by
  cases x <;> first | exact ⟨_, rfl⟩ | exact absurd h (by simp [kindV])
theorem kind_is_text {x : V} (h : kindV x = 5) : ∃ a, x = .text a := by
  cases x <;> first | exact ⟨_, rfl⟩ | exact absurd h (by simp [kindV])
theorem kind_is_bytes {x : V} (h : kindV x = 6) : ∃ a, x = .bytes a := by
  cases x <;> first | exact ⟨_, rfl⟩ | exact absurd h (by simp [kindV])
theorem kind_is_ref {x : V} (h : kindV x = 7) : ∃ a, x = .ref a := by
  cases x <;> first | exact ⟨_, rfl⟩ | exact absurd h (by simp [kindV])
theorem kind_is_list {x : V} (h : kindV x = 8) : ∃ a, x = .list a := by
  cases x <;> first | exact ⟨_, rfl⟩ | exact absurd h (by simp [kindV])
theorem kind_is_dict {x : V} (h : kindV x = 9) : ∃ a, x = .dict a := by
  cases x <;> first | exact ⟨_, rfl⟩ | exact absurd h (by simp [kindV])
theorem kind_is_record {x : V} (h : kindV x = 10) : ∃ c v l, x = .record c v l := by
  cases x <;> first | exact ⟨_, _, _, rfl⟩ | exact absurd h (by decide) | exact absurd h (by simp [kindV])
/- An expression as a call hands it. -/
def Eleven (y : List Value) : Prop := ∃ n0 n1 n2 n3 n4 n5 n6 n7 n8 n9 n10, y = [n0, n1, n2, n3, n4, n5, n6, n7, n8, n9, n10] ∧ ∀ v ∈ y, v.oneCell' = true
def eV (op : ByteArray) (a : Int) (p : Value) (nm : ByteArray) (y : List Value) : Value := .agg (.string op :: .int .i64 a :: p :: .string nm :: y).toArray
def faultV (a : Int) (why : Nat) : Value := .iface 97 (.agg #[.int .i64 a, .int .i64 why])
/- It gives up. -/
def GivesUp (a : Int) (why : Nat) (w : World) (e : Ending) (w' : World) : Prop := e = .panicked [{ v := faultV a why, recovered := false }] ∧ Below w.heap.size w w'
set_option maxRecDepth 100000 in
set_option maxHeartbeats 1000000 in
theorem bad_any (op : ByteArray) (a : Int) (p : Value) (nm : ByteArray) (y : List Value) (hy : Eleven y) (hp : p.oneCell' = true) (w : World) :
    Calls Tryz.prog 61 #[eV op a p nm y] w (GivesUp a 172 w) := by
  obtain ⟨n0, n1, n2, n3, n4, n5, n6, n7, n8, n9, n10, rfl, h1⟩ := hy
  clear h1
  unfold eV
  go_enter Tryz.func61, Tryz.ntmps61
  go_wp2
  exact ⟨rfl, rfl, (Below.refl _ _).alloc (Nat.le_refl _) _⟩
end Go.Proofs.YtbemeapjeipjlaaGreatDoor
