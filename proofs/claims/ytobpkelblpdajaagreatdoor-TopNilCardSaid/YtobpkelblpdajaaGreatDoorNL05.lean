/- Walks: value.kind. -/
import Derived.Test.YtobpkelblpdajaaGreatDoorNL04
set_option linter.unusedVariables false
set_option linter.unusedSimpArgs false
set_option linter.unusedSectionVars false
namespace Go.Proofs.YtobpkelblpdajaaGreatDoor
open Go Go.RowKit
attribute [local go_sem] ta_no_bool ta_yes_bool ta_nil_bool ta_no_int64 ta_yes_int64 ta_nil_int64 ta_no_flt ta_yes_flt ta_nil_flt ta_no_str ta_yes_str ta_nil_str ta_no_byt ta_yes_byt ta_nil_byt ta_no_ref ta_yes_ref ta_nil_ref ta_no_lst ta_yes_lst ta_nil_lst ta_no_dct ta_yes_dct ta_nil_dct ta_no_rec ta_yes_rec ta_nil_rec
def kindV : V → Nat
  | .nil => 1
  | .bool _ => 2
  | .int _ => 3
  | .flt _ => 4
  | .text _ => 5
  | .bytes _ => 6
  | .ref _ => 7
  | .list _ => 8
  | .dict _ => 9
  | .record _ _ _ => 10
  | .nothing => 11
  | .alien => 0
theorem alienT_ne {t : TypeId} (h : alienT t = true) : t ≠ 4 ∧ t ≠ 2 ∧ t ≠ 22 ∧ t ≠ 9 ∧ t ≠ 23 ∧ t ≠ 25 ∧ t ≠ 43 ∧ t ≠ 41 ∧ t ≠ 32 := by
  simpa [alienT, and_assoc] using h
set_option maxRecDepth 100000 in
set_option maxHeartbeats 400000 in
theorem kind_nil (w : World) : Calls Tryz.prog 88 #[.nilIface] w fun e w' => e = .returned (.int .i64 1) ∧ w = w' := by
  go_enter Tryz.func88, Tryz.ntmps88
  go_wp2
  go_ret
  exact ⟨rfl, rfl⟩
set_option maxRecDepth 100000 in
set_option maxHeartbeats 400000 in
theorem kind_bool (b : Bool) (w : World) : Calls Tryz.prog 88 #[.iface 4 (.bool b)] w fun e w' => e = .returned (.int .i64 2) ∧ w = w' := by
  go_enter Tryz.func88, Tryz.ntmps88
  go_wp2
  go_ret
  exact ⟨rfl, rfl⟩
set_option maxRecDepth 100000 in
set_option maxHeartbeats 400000 in
theorem kind_int (n : Int) (w : World) : Calls Tryz.prog 88 #[.iface 2 (.int .i64 n)] w fun e w' => e = .returned (.int .i64 3) ∧ w = w' := by
  go_enter Tryz.func88, Tryz.ntmps88
  go_wp2
  go_ret
  exact ⟨rfl, rfl⟩
set_option maxRecDepth 100000 in
set_option maxHeartbeats 400000 in
theorem kind_flt (n : Nat) (w : World) : Calls Tryz.prog 88 #[.iface 22 (.float .f64 n)] w fun e w' => e = .returned (.int .i64 4) ∧ w = w' := by
  go_enter Tryz.func88, Tryz.ntmps88
  go_wp2
  go_ret
  exact ⟨rfl, rfl⟩
set_option maxRecDepth 100000 in
set_option maxHeartbeats 400000 in
theorem kind_text (s : ByteArray) (w : World) : Calls Tryz.prog 88 #[.iface 9 (.string s)] w fun e w' => e = .returned (.int .i64 5) ∧ w = w' := by
  go_enter Tryz.func88, Tryz.ntmps88
  go_wp2
  go_ret
  exact ⟨rfl, rfl⟩
set_option maxRecDepth 100000 in
set_option maxHeartbeats 400000 in
theorem kind_bytes (A : Option Addr) (n c : Nat) (w : World) : Calls Tryz.prog 88 #[.iface 23 (.slice A n c)] w fun e w' => e = .returned (.int .i64 6) ∧ w = w' := by
  go_enter Tryz.func88, Tryz.ntmps88
  go_wp2
  go_ret
  exact ⟨rfl, rfl⟩
set_option maxRecDepth 100000 in
set_option maxHeartbeats 400000 in
theorem kind_ref (n : Int) (w : World) : Calls Tryz.prog 88 #[.iface 25 (.int .u64 n)] w fun e w' => e = .returned (.int .i64 7) ∧ w = w' := by
  go_enter Tryz.func88, Tryz.ntmps88
  go_wp2
  go_ret
  exact ⟨rfl, rfl⟩
set_option maxRecDepth 100000 in
set_option maxHeartbeats 400000 in
theorem kind_list (A : Option Addr) (n c : Nat) (w : World) : Calls Tryz.prog 88 #[.iface 43 (.slice A n c)] w fun e w' => e = .returned (.int .i64 8) ∧ w = w' := by
  go_enter Tryz.func88, Tryz.ntmps88
  go_wp2
  go_ret
  exact ⟨rfl, rfl⟩
set_option maxRecDepth 100000 in
set_option maxHeartbeats 400000 in
theorem kind_dict (A : Option Addr) (n c : Nat) (w : World) : Calls Tryz.prog 88 #[.iface 41 (.slice A n c)] w fun e w' => e = .returned (.int .i64 9) ∧ w = w' := by
  go_enter Tryz.func88, Tryz.ntmps88
  go_wp2
  go_ret
  exact ⟨rfl, rfl⟩
set_option maxRecDepth 100000 in
set_option maxHeartbeats 400000 in
theorem kind_record (a : Addr) (w : World) : Calls Tryz.prog 88 #[.iface 32 (.pointer (some a))] w fun e w' => e = .returned (.int .i64 10) ∧ w = w' := by
  go_enter Tryz.func88, Tryz.ntmps88
  go_wp2
  go_ret
  exact ⟨rfl, rfl⟩
set_option maxRecDepth 100000 in
set_option maxHeartbeats 400000 in
theorem kind_nothing (w : World) : Calls Tryz.prog 88 #[.iface 32 (.pointer none)] w fun e w' => e = .returned (.int .i64 11) ∧ w = w' := by
  go_enter Tryz.func88, Tryz.ntmps88
  go_wp2
  go_ret
  exact ⟨rfl, rfl⟩
set_option maxRecDepth 100000 in
set_option maxHeartbeats 400000 in
theorem kind_alien (t : TypeId) (x : Value) (w : World) (ht : alienT t = true) : Calls Tryz.prog 88 #[.iface t x] w fun e w' => e = .returned (.int .i64 0) ∧ w = w' := by
  obtain ⟨a1, a2, a3, a4, a5, a6, a7, a8, a9⟩ := alienT_ne ht
  clear ht
  go_enter Tryz.func88, Tryz.ntmps88
  go_wp2
  go_ret
  exact ⟨rfl, rfl⟩
theorem kind_any (x : V) (v : Value) (B : Nat) (w : World) (h : Rd w B x v) : Calls Tryz.prog 88 #[v] w fun e w' => e = .returned (.int .i64 (kindV x)) ∧ w = w' := by
  cases x with
  | nil => subst h; exact kind_nil w
  | bool b => subst h; exact kind_bool b w
  | int n => obtain ⟨rfl, _⟩ := h; exact kind_int n w
  | flt n => subst h; exact kind_flt n w
  | text s => obtain ⟨rfl, _⟩ := h; exact kind_text s w
  | bytes l => obtain ⟨A, c, rfl, _⟩ := h; exact kind_bytes A _ c w
  | ref n => obtain ⟨rfl, _⟩ := h; exact kind_ref n w
  | list l => obtain ⟨A, c, rfl, _⟩ := h; exact kind_list A _ c w
  | dict l => obtain ⟨A, c, rfl, _⟩ := h; exact kind_dict A _ c w
  | record a b c => obtain ⟨b, rfl, _⟩ := h; exact kind_record _ w
  | nothing => subst h; exact kind_nothing w
  | alien => obtain ⟨t, x, rfl, ht⟩ := h; exact kind_alien t x w ht
end Go.Proofs.YtobpkelblpdajaaGreatDoor
