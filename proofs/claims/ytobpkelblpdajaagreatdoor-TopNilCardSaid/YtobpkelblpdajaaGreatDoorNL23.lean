/- Walks: value.cmp at its kinds, value.truth, value.place. -/
import Derived.Test.YtobpkelblpdajaaGreatDoorNL22
set_option linter.unusedVariables false
set_option linter.unusedSimpArgs false
set_option linter.unusedSectionVars false
namespace Go.Proofs.YtobpkelblpdajaaGreatDoor
open Go Go.RowKit
/- How two numbers stand to each other. -/
def ordI (a b : Int) : Int := if a < b then -1 else if b < a then 1 else 0
theorem ordI_lt {a b : Int} (h : a < b) : ordI a b = -1 := by unfold ordI; rw [if_pos h]
theorem ordI_gt {a b : Int} (h : b < a) : ordI a b = 1 := by unfold ordI; rw [if_neg (by omega), if_pos h]
theorem ordI_eq {a b : Int} (h : a = b) : ordI a b = 0 := by unfold ordI; rw [if_neg (by omega), if_neg (by omega)]
theorem ordI_zero {a b : Int} : ordI a b = 0 ↔ a = b := by unfold ordI; split <;> (try split) <;> omega
theorem ordI_bound (a b : Int) : -1 ≤ ordI a b ∧ ordI a b ≤ 1 := by unfold ordI; split <;> (try split) <;> omega
theorem ordI_neg (a b : Int) : ordI b a = - ordI a b := by unfold ordI; split <;> (try split) <;> (try split) <;> (try split) <;> omega
/- How two texts stand to each other. -/
def lessS (a b : ByteArray) : Bool := Op.bytesLess a.toList b.toList
def ordS (a b : ByteArray) : Int := if lessS a b = true then -1 else if (a.toList == b.toList) = true then 0 else 1
def truthI (b : Bool) : Int := if b = true then 1 else 0
theorem ret_num {a b : Int} (h : a = b) : Ending.returned (.int .i64 a) = .returned (.int .i64 b) := by rw [h]
def NumPost (n : Int) (w : World) (e : Ending) (w' : World) : Prop := e = .returned (.int .i64 n) ∧ w = w'
set_option maxRecDepth 100000 in
set_option maxHeartbeats 400000 in
theorem cmp_int (a b : Int) (w : World) : Calls Tryz.prog 87 #[.int .i64 a, .int .i64 b] w (NumPost (ordI a b) w) := by
  rcases Int.lt_trichotomy a b with h | h | h
  · have HR := Lib.hid (ordI_lt h)
    go_enter Tryz.func87, Tryz.ntmps87
    go_wp2
    go_ret
    exact ⟨ret_num HR.out.symm, rfl⟩
  · have HR := Lib.hid (ordI_eq h)
    go_enter Tryz.func87, Tryz.ntmps87
    go_wp2
    go_ret
    exact ⟨ret_num HR.out.symm, rfl⟩
  · have HR := Lib.hid (ordI_gt h)
    have h2 : ¬ a < b := by omega
    go_enter Tryz.func87, Tryz.ntmps87
    go_wp2
    go_ret
    exact ⟨ret_num HR.out.symm, rfl⟩
set_option maxRecDepth 100000 in
set_option maxHeartbeats 400000 in
theorem cmp_int64 (a b : Int) (w : World) : Calls Tryz.prog 90 #[.int .i64 a, .int .i64 b] w (NumPost (ordI a b) w) := by
  rcases Int.lt_trichotomy a b with h | h | h
  · have HR := Lib.hid (ordI_lt h)
    go_enter Tryz.func90, Tryz.ntmps90
    go_wp2
    go_ret
    exact ⟨ret_num HR.out.symm, rfl⟩
  · have HR := Lib.hid (ordI_eq h)
    go_enter Tryz.func90, Tryz.ntmps90
    go_wp2
    go_ret
    exact ⟨ret_num HR.out.symm, rfl⟩
  · have HR := Lib.hid (ordI_gt h)
    have h2 : ¬ a < b := by omega
    go_enter Tryz.func90, Tryz.ntmps90
    go_wp2
    go_ret
    exact ⟨ret_num HR.out.symm, rfl⟩
set_option maxRecDepth 100000 in
set_option maxHeartbeats 400000 in
theorem cmp_uint64 (a b : Int) (w : World) : Calls Tryz.prog 91 #[.int .u64 a, .int .u64 b] w (NumPost (ordI a b) w) := by
  rcases Int.lt_trichotomy a b with h | h | h
  · have HR := Lib.hid (ordI_lt h)
    go_enter Tryz.func91, Tryz.ntmps91
    go_wp2
    go_ret
    exact ⟨ret_num HR.out.symm, rfl⟩
  · have HR := Lib.hid (ordI_eq h)
    go_enter Tryz.func91, Tryz.ntmps91
    go_wp2
    go_ret
    exact ⟨ret_num HR.out.symm, rfl⟩
  · have HR := Lib.hid (ordI_gt h)
    have h2 : ¬ a < b := by omega
    go_enter Tryz.func91, Tryz.ntmps91
    go_wp2
    go_ret
    exact ⟨ret_num HR.out.symm, rfl⟩
set_option maxRecDepth 100000 in
set_option maxHeartbeats 400000 in
theorem cmp_ref (a b : Int) (w : World) : Calls Tryz.prog 95 #[.int .u64 a, .int .u64 b] w (NumPost (ordI a b) w) := by
  rcases Int.lt_trichotomy a b with h | h | h
  · have HR := Lib.hid (ordI_lt h)
    go_enter Tryz.func95, Tryz.ntmps95
    go_wp2
    go_ret
    exact ⟨ret_num HR.out.symm, rfl⟩
  · have HR := Lib.hid (ordI_eq h)
    go_enter Tryz.func95, Tryz.ntmps95
    go_wp2
    go_ret
    exact ⟨ret_num HR.out.symm, rfl⟩
  · have HR := Lib.hid (ordI_gt h)
    have h2 : ¬ a < b := by omega
    go_enter Tryz.func95, Tryz.ntmps95
    go_wp2
    go_ret
    exact ⟨ret_num HR.out.symm, rfl⟩
set_option maxRecDepth 100000 in
set_option maxHeartbeats 400000 in
theorem cmp_string (a b : ByteArray) (w : World) : Calls Tryz.prog 93 #[.string a, .string b] w (NumPost (ordS a b) w) := by
  cases h1 : Op.bytesLess a.toList b.toList
  · cases h2 : (a.toList == b.toList)
    · have HR : Hid (ordS a b = 1) := Lib.hid (by unfold ordS lessS; rw [h1, h2]; rfl)
      go_enter Tryz.func93, Tryz.ntmps93
      go_wp2
      go_ret
      exact ⟨ret_num HR.out.symm, rfl⟩
    · have HR : Hid (ordS a b = 0) := Lib.hid (by unfold ordS lessS; rw [h1, h2]; rfl)
      go_enter Tryz.func93, Tryz.ntmps93
      go_wp2
      go_ret
      exact ⟨ret_num HR.out.symm, rfl⟩
  · have HR : Hid (ordS a b = -1) := Lib.hid (by unfold ordS lessS; rw [h1]; rfl)
    go_enter Tryz.func93, Tryz.ntmps93
    go_wp2
    go_ret
    exact ⟨ret_num HR.out.symm, rfl⟩
set_option maxRecDepth 100000 in
set_option maxHeartbeats 400000 in
theorem truth_any (b : Bool) (w : World) : Calls Tryz.prog 89 #[.bool b] w (NumPost (truthI b) w) := by
  cases b
  all_goals
    go_enter Tryz.func89, Tryz.ntmps89
    go_wp2
    go_ret
    exact ⟨rfl, rfl⟩
theorem run_f64bits (b : Nat) (w : World) : (callFunc 42 #[.float .f64 b]).run Tryz.prog w = .ok (.value (.int .u64 b)) w := by
  rw [run_callFunc_extern Tryz.func42 (by kernel_rfl) (by kernel_rfl) (by kernel_rfl) (e := Extern.MathFloatBits.float64bits) (by kernel_rfl)]; rfl
theorem run_f64from (b : Nat) (w : World) : (callFunc 40 #[.int .u64 b]).run Tryz.prog w = .ok (.value (.float .f64 b)) w := by
  rw [run_callFunc_extern Tryz.func40 (by kernel_rfl) (by kernel_rfl) (by kernel_rfl) (e := Extern.MathFloatBits.float64frombits) (by kernel_rfl)]; rfl
/- A float's place in the order. -/
def placeV (b : Nat) : Int := if ((b : Int) / 9223372036854775808 == 1) = true then bits .xor .u64 IntKind.u64.max b else bits .or .u64 b 9223372036854775808
set_option maxRecDepth 100000 in
set_option maxHeartbeats 400000 in
theorem place_any (b : Nat) (w : World) : Calls Tryz.prog 92 #[.float .f64 b] w (fun e w' => e = .returned (.int .u64 (placeV b)) ∧ w = w') := by
  have k0 := fun (w : World) => run_f64bits b w
  cases hq : ((b : Int) / 9223372036854775808 == 1)
  · have HR : Hid (placeV b = bits .or .u64 b 9223372036854775808) := Lib.hid (by unfold placeV; rw [hq]; rfl)
    go_enter Tryz.func92, Tryz.ntmps92
    go_wp2
    go_ret
    exact ⟨ret_int HR.out.symm, rfl⟩
  · have HR : Hid (placeV b = bits .xor .u64 IntKind.u64.max b) := Lib.hid (by unfold placeV; rw [hq]; rfl)
    go_enter Tryz.func92, Tryz.ntmps92
    go_wp2
    all_goals
      go_ret
      exact ⟨ret_int HR.out.symm, rfl⟩
theorem run_ta1 {P : Program} (w : World) {A X : TypeId} {x : Value} {u : TypeDesc} (hu : P.underlying A = some u) (hi : ∀ ms, u ≠ .interface ms) :
    (Instr.typeAssert (.iface A x) X A false).run P w = .ok x w := by
  unfold Instr.typeAssert
  cases u <;> simp [run_underlying hu, Result.andThen] <;> exact absurd rfl (hi _)
section
variable (w : World) (X : TypeId) (x : Value)
theorem ta1_bool : (Instr.typeAssert (.iface 4 x) X 4 false).run Tryz.prog w = .ok x w := run_ta1 w Tryz.underlying4 (fun _ h => by cases h)
theorem ta1_int64 : (Instr.typeAssert (.iface 2 x) X 2 false).run Tryz.prog w = .ok x w := run_ta1 w Tryz.underlying2 (fun _ h => by cases h)
theorem ta1_flt : (Instr.typeAssert (.iface 22 x) X 22 false).run Tryz.prog w = .ok x w := run_ta1 w Tryz.underlying22 (fun _ h => by cases h)
theorem ta1_str : (Instr.typeAssert (.iface 9 x) X 9 false).run Tryz.prog w = .ok x w := run_ta1 w Tryz.underlying9 (fun _ h => by cases h)
theorem ta1_byt : (Instr.typeAssert (.iface 23 x) X 23 false).run Tryz.prog w = .ok x w := run_ta1 w Tryz.underlying23 (fun _ h => by cases h)
theorem ta1_ref : (Instr.typeAssert (.iface 25 x) X 25 false).run Tryz.prog w = .ok x w := run_ta1 w Tryz.underlying25 (fun _ h => by cases h)
theorem ta1_lst : (Instr.typeAssert (.iface 43 x) X 43 false).run Tryz.prog w = .ok x w := run_ta1 w Tryz.underlying43 (fun _ h => by cases h)
theorem ta1_dct : (Instr.typeAssert (.iface 41 x) X 41 false).run Tryz.prog w = .ok x w := run_ta1 w Tryz.underlying41 (fun _ h => by cases h)
theorem ta1_rec : (Instr.typeAssert (.iface 32 x) X 32 false).run Tryz.prog w = .ok x w := run_ta1 w Tryz.underlying32 (fun _ h => by cases h)
end
end Go.Proofs.YtobpkelblpdajaaGreatDoor
