/- Walks: a value that cannot be, or a record that is none, is told by every call that takes values. -/
import Derived.Test.YtobpkelblpdajaaGreatDoorNL27
import Derived.Defers
set_option linter.unusedVariables false
set_option linter.unusedSimpArgs false
set_option linter.unusedSectionVars false
namespace Go.Proofs.YtobpkelblpdajaaGreatDoor
open Go Go.RowKit
def ErrPost (vs : List Value) (why : Nat) (w : World) (e : Ending) (w' : World) : Prop := e = .returned (.tuple (vs ++ [Value.int .i64 why]).toArray) ∧ Below w.heap.size w w'
set_option maxRecDepth 100000 in
set_option maxHeartbeats 1000000 in
theorem copy_bad (x : V) (v : Value) (w : World) (h : Rd w w.heap.size x v) (hz : (checkV x).2 ≠ 0) : Calls Tryz.prog 14 #[v] w (ErrPost [.nilIface] (checkV x).2 w) := by
  have HC : Hid (∀ W, Below w.heap.size w W → Calls Tryz.prog 48 #[v] W (fun e w' => e = .returned (.tuple #[.int .i64 (checkV x).1, .int .i64 (checkV x).2]) ∧ Below W.heap.size W w')) := Lib.hid (fun W hW => check_any x v W (Rd.more hW.size _ _ (h.below hW)))
  generalize checkV x = ck at *
  have hq : ((ck.2 : Int) != 0) = true := by rw [bne_iff_ne]; omega
  clear h hz
  go_enter Tryz.func14, Tryz.ntmps14
  go_wp2_with fail
  refine (HC.out _ (Below.refl _ _)).mono ?_
  rintro e w1 ⟨rfl, hb1⟩
  go_wp2
  go_ret2
  exact ⟨rfl, hb1⟩
set_option maxRecDepth 100000 in
set_option maxHeartbeats 1000000 in
theorem enc_bad (x : V) (v : Value) (w : World) (h : Rd w w.heap.size x v) (hz : (checkV x).2 ≠ 0) : Calls Tryz.prog 17 #[v] w (ErrPost [.slice none 0 0] (checkV x).2 w) := by
  have HC : Hid (∀ W, Below w.heap.size w W → Calls Tryz.prog 13 #[v] W (fun e w' => e = .returned (.tuple #[.int .i64 (checkV x).1, .int .i64 (checkV x).2]) ∧ Below W.heap.size W w')) := Lib.hid (fun W hW => check_out x v W (Rd.more hW.size _ _ (h.below hW)))
  generalize checkV x = ck at *
  have hq : ((ck.2 : Int) != 0) = true := by rw [bne_iff_ne]; omega
  clear h hz
  go_enter Tryz.func17, Tryz.ntmps17
  go_wp2_with fail
  refine (HC.out _ (Below.refl _ _)).mono ?_
  rintro e w1 ⟨rfl, hb1⟩
  go_wp2
  go_ret2
  exact ⟨rfl, hb1⟩
theorem conv_nil (w : World) : (convert 23 9 (.slice none 0 0)).run Tryz.prog w = .ok (.string ⟨#[]⟩) w := by kernel_rfl
set_option maxRecDepth 100000 in
set_option maxHeartbeats 1000000 in
theorem key_bad (x : V) (v : Value) (w : World) (h : Rd w w.heap.size x v) (hz : (checkV x).2 ≠ 0) : Calls Tryz.prog 18 #[v] w (ErrPost [.string ⟨#[]⟩] (checkV x).2 w) := by
  have HC : Hid (∀ W, Below w.heap.size w W → Calls Tryz.prog 17 #[v] W (fun e w' => e = .returned (.tuple #[.slice none 0 0, .int .i64 (checkV x).2]) ∧ Below W.heap.size W w')) := Lib.hid (fun W hW => enc_bad x v W (Rd.more hW.size _ _ (h.below hW)) hz)
  have kc := fun (W : World) => conv_nil W
  generalize checkV x = ck at *
  have hq : ((ck.2 : Int) != 0) = true := by rw [bne_iff_ne]; omega
  clear h hz
  go_enter Tryz.func18, Tryz.ntmps18
  go_wp2_with fail
  refine (HC.out _ (Below.refl _ _)).mono ?_
  rintro e w1 ⟨rfl, hb1⟩
  go_wp2
  go_ret2
  exact ⟨rfl, hb1⟩
set_option maxRecDepth 100000 in
set_option maxHeartbeats 1000000 in
theorem printed_bad (x : V) (v : Value) (w : World) (b : Bool) (h : Rd w w.heap.size x v) (hz : (checkV x).2 ≠ 0) : Calls Tryz.prog 51 #[v, .bool b] w (ErrPost [.string ⟨#[]⟩] (checkV x).2 w) := by
  have HC : Hid (∀ W, Below w.heap.size w W → Calls Tryz.prog 13 #[v] W (fun e w' => e = .returned (.tuple #[.int .i64 (checkV x).1, .int .i64 (checkV x).2]) ∧ Below W.heap.size W w')) := Lib.hid (fun W hW => check_out x v W (Rd.more hW.size _ _ (h.below hW)))
  generalize checkV x = ck at *
  have hq : ((ck.2 : Int) != 0) = true := by rw [bne_iff_ne]; omega
  clear h hz
  go_enter Tryz.func51, Tryz.ntmps51
  go_wp2_with fail
  refine (HC.out _ (Below.refl _ _)).mono ?_
  rintro e w1 ⟨rfl, hb1⟩
  go_wp2
  go_ret2
  exact ⟨rfl, hb1⟩
set_option maxRecDepth 100000 in
set_option maxHeartbeats 1000000 in
theorem print_bad (x : V) (v : Value) (w : World) (h : Rd w w.heap.size x v) (hz : (checkV x).2 ≠ 0) : Calls Tryz.prog 16 #[v] w (ErrPost [.string ⟨#[]⟩] (checkV x).2 w) := by
  have HC : Hid (∀ W, Below w.heap.size w W → Calls Tryz.prog 51 #[v, .bool false] W (fun e w' => e = .returned (.tuple #[.string ⟨#[]⟩, .int .i64 (checkV x).2]) ∧ Below W.heap.size W w')) := Lib.hid (fun W hW => printed_bad x v W false (Rd.more hW.size _ _ (h.below hW)) hz)
  generalize checkV x = ck at *
  have hq : ((ck.2 : Int) != 0) = true := by rw [bne_iff_ne]; omega
  clear h hz
  go_enter Tryz.func16, Tryz.ntmps16
  go_wp2_with fail
  refine (HC.out _ (Below.refl _ _)).mono ?_
  rintro e w1 ⟨rfl, hb1⟩
  go_wp2
  go_ret2
  exact ⟨rfl, hb1⟩
set_option maxRecDepth 100000 in
set_option maxHeartbeats 1000000 in
theorem begin_bad (x : V) (v u : Value) (w : World) (h : Rd w w.heap.size x v) (hz : (checkV x).2 ≠ 0) : Calls Tryz.prog 54 #[v, u] w fun e w' => e = .returned (.int .i64 (checkV x).2) ∧ Below w.heap.size w w' := by
  have HC : Hid (∀ W, Below w.heap.size w W → Calls Tryz.prog 13 #[v] W (fun e w' => e = .returned (.tuple #[.int .i64 (checkV x).1, .int .i64 (checkV x).2]) ∧ Below W.heap.size W w')) := Lib.hid (fun W hW => check_out x v W (Rd.more hW.size _ _ (h.below hW)))
  generalize checkV x = ck at *
  have hq : ((ck.2 : Int) != 0) = true := by rw [bne_iff_ne]; omega
  clear h hz
  go_enter Tryz.func54, Tryz.ntmps54
  go_wp2_with fail
  refine (HC.out _ (Below.refl _ _)).mono ?_
  rintro e w1 ⟨rfl, hb1⟩
  go_wp2
  go_ret
  exact ⟨rfl, hb1⟩
set_option maxRecDepth 100000 in
set_option maxHeartbeats 1000000 in
theorem get_bad (x : V) (v : Value) (w : World) (u : Value) (h : Rd w w.heap.size x v) (hz : (checkV x).2 ≠ 0) : Calls Tryz.prog 20 #[v, u] w (ErrPost [.nilIface] (checkV x).2 w) := by
  have HC := Lib.hid (begin_bad x v u w h hz)
  generalize checkV x = ck at *
  have hq : ((ck.2 : Int) != 0) = true := by rw [bne_iff_ne]; omega
  clear h hz
  go_enter Tryz.func20, Tryz.ntmps20
  go_wp2_with fail
  refine HC.out.mono ?_
  rintro e w1 ⟨rfl, hb1⟩
  go_wp2
  go_ret2
  exact ⟨rfl, hb1⟩
set_option maxRecDepth 100000 in
set_option maxHeartbeats 1000000 in
theorem order_bad (x : V) (v : Value) (w : World) (h : Rd w w.heap.size x v) (hz : (checkV x).2 ≠ 0) : Calls Tryz.prog 15 #[.nilIface, v] w (ErrPost [.int .i64 0] (checkV x).2 w) := by
  have H0 : Hid (Calls Tryz.prog 48 #[.nilIface] w (fun e w' => e = .returned (.tuple #[.int .i64 0, .int .i64 0]) ∧ Below w.heap.size w w')) := Lib.hid (by have := check_any .nil .nilIface w rfl; unfold CheckPost at this; rw [checkV_yes (by rfl)] at this; exact this)
  have HC : Hid (∀ W, Below w.heap.size w W → Calls Tryz.prog 48 #[v] W (fun e w' => e = .returned (.tuple #[.int .i64 (checkV x).1, .int .i64 (checkV x).2]) ∧ Below W.heap.size W w')) := Lib.hid (fun W hW => check_any x v W (Rd.more hW.size _ _ (h.below hW)))
  generalize checkV x = ck at *
  have hq : ((ck.2 : Int) != 0) = true := by rw [bne_iff_ne]; omega
  clear h hz
  go_enter Tryz.func15, Tryz.ntmps15
  go_wp2_with fail
  refine H0.out.mono ?_
  rintro e w0 ⟨rfl, hb0⟩
  go_wp2_with fail
  refine (HC.out _ hb0).mono ?_
  rintro e w1 ⟨rfl, hb1⟩
  go_wp2
  go_ret2
  exact ⟨rfl, below_then hb0 (Nat.le_refl _) hb1⟩
set_option maxRecDepth 100000 in
set_option maxHeartbeats 1000000 in
theorem diff_bad (x : V) (v : Value) (w : World) (h : Rd w w.heap.size x v) (hz : (checkV x).2 ≠ 0) : Calls Tryz.prog 21 #[.nilIface, v] w (ErrPost [.slice none 0 0] (checkV x).2 w) := by
  have H0 : Hid (Calls Tryz.prog 13 #[.nilIface] w (fun e w' => e = .returned (.tuple #[.int .i64 0, .int .i64 0]) ∧ Below w.heap.size w w')) := Lib.hid (by have := check_out .nil .nilIface w rfl; unfold CheckPost at this; rw [checkV_yes (by rfl)] at this; exact this)
  have HC : Hid (∀ W, Below w.heap.size w W → Calls Tryz.prog 13 #[v] W (fun e w' => e = .returned (.tuple #[.int .i64 (checkV x).1, .int .i64 (checkV x).2]) ∧ Below W.heap.size W w')) := Lib.hid (fun W hW => check_out x v W (Rd.more hW.size _ _ (h.below hW)))
  generalize checkV x = ck at *
  have hq : ((ck.2 : Int) != 0) = true := by rw [bne_iff_ne]; omega
  clear h hz
  go_enter Tryz.func21, Tryz.ntmps21
  go_wp2_with fail
  refine H0.out.mono ?_
  rintro e w0 ⟨rfl, hb0⟩
  go_wp2_with fail
  refine (HC.out _ hb0).mono ?_
  rintro e w1 ⟨rfl, hb1⟩
  go_wp2
  go_ret2
  exact ⟨rfl, below_then hb0 (Nat.le_refl _) hb1⟩
end Go.Proofs.YtobpkelblpdajaaGreatDoor
