/- Walks: value.copied, value.Copy. -/
import Derived.Test.YtobpkelblpdajaaGreatDoorTX09
set_option linter.unusedVariables false
set_option linter.unusedSimpArgs false
set_option linter.unusedSectionVars false
namespace Go.Proofs.YtobpkelblpdajaaGreatDoor
open Go Go.RowKit
attribute [local go_sem] ta_no_bool ta_yes_bool ta_nil_bool ta_no_int64 ta_yes_int64 ta_nil_int64 ta_no_flt ta_yes_flt ta_nil_flt ta_no_str ta_yes_str ta_nil_str ta_no_byt ta_yes_byt ta_nil_byt ta_no_ref ta_yes_ref ta_nil_ref ta_no_lst ta_yes_lst ta_nil_lst ta_no_dct ta_yes_dct ta_nil_dct ta_no_rec ta_yes_rec ta_nil_rec
end Go.Proofs.YtobpkelblpdajaaGreatDoor
/- Walks: value.cmp at its kinds, value.truth, value.place. -/
namespace Go.Proofs.YtobpkelblpdajaaGreatDoor
open Go Go.RowKit
/- How two numbers stand to each other. -/
def ordI (a b : Int) : Int := if a < b then -1 else if b < a then 1 else 0
/- How two texts stand to each other. -/
def lessS (a b : ByteArray) : Bool := Op.bytesLess a.toList b.toList
def ordS (a b : ByteArray) : Int := if lessS a b = true then -1 else if (a.toList == b.toList) = true then 0 else 1
def truthI (b : Bool) : Int := if b = true then 1 else 0
theorem run_f64bits (b : Nat) (w : World) : (callFunc 42 #[.float .f64 b]).run Tryz.prog w = .ok (.value (.int .u64 b)) w := by
  rw [run_callFunc_extern Tryz.func42 (by kernel_rfl) (by kernel_rfl) (by kernel_rfl) (e := Extern.MathFloatBits.float64bits) (by kernel_rfl)]; rfl
/- A float's place in the order. -/
def placeV (b : Nat) : Int := if ((b : Int) / 9223372036854775808 == 1) = true then bits .xor .u64 IntKind.u64.max b else bits .or .u64 b 9223372036854775808
theorem run_ta1 {P : Program} (w : World) {A X : TypeId} {x : Value} {u : TypeDesc} (hu : P.underlying A = some u) (hi : ∀ ms, u ≠ .interface ms) :
    (Instr.typeAssert (.iface A x) X A false).run P w = .ok x w := by
  unfold Instr.typeAssert
  cases u <;> simp [run_underlying hu, Result.andThen] <;> exact absurd rfl (hi _)
section
variable (w : World) (X : TypeId) (x : Value)
theorem ta1_bool : (Instr.typeAssert (.iface 4 x) X 4 false).run Tryz.prog w = .ok x w := run_ta1 w Tryz.underlying4 (fun _ h => by cases h)
theorem ta1_int64 : (Instr.typeAssert (.iface 2 x) X 2 false).run Tryz.prog w = .ok x w := run_ta1 w Tryz.underlying2 (fun _ h => by cases h)
theorem ta1_flt : (Instr.typeAssert (.iface 22 x) X 22 false).run Tryz.prog w = .ok x w := run_ta1 w Tryz.underlying22 (fun _ h => by cases h)
theorem ta1_str : (Instr.typeAssert (.iface 9 x) X 9 false).run Tryz.prog w = .ok x w := run_ta1 w Tryz.underlying9 (fun _ h => by cases h)
theorem ta1_byt : (Instr.typeAssert (.iface 23 x) X 23 false).run Tryz.prog w = .ok x w := run_ta1 w Tryz.underlying23 (fun _ h => by cases h)
theorem ta1_ref : (Instr.typeAssert (.iface 25 x) X 25 false).run Tryz.prog w = .ok x w := run_ta1 w Tryz.underlying25 (fun _ h => by cases h)
theorem ta1_lst : (Instr.typeAssert (.iface 43 x) X 43 false).run Tryz.prog w = .ok x w := run_ta1 w Tryz.underlying43 (fun _ h => by cases h)
theorem ta1_dct : (Instr.typeAssert (.iface 41 x) X 41 false).run Tryz.prog w = .ok x w := run_ta1 w Tryz.underlying41 (fun _ h => by cases h)
theorem ta1_rec : (Instr.typeAssert (.iface 32 x) X 32 false).run Tryz.prog w = .ok x w := run_ta1 w Tryz.underlying32 (fun _ h => by cases h)
end
end Go.Proofs.YtobpkelblpdajaaGreatDoor
