/- How the walk asks an interface for a type. -/
import Derived.Test.YtobpkelblpdajaaGreatDoorNL02
set_option linter.unusedVariables false
set_option linter.unusedSimpArgs false
set_option linter.unusedSectionVars false
namespace Go.Proofs.YtobpkelblpdajaaGreatDoor
open Go Go.RowKit
section
variable {P : Program}
theorem run_ta_no (w : World) {t A X : TypeId} {x z : Value} {u : TypeDesc} (hu : P.underlying A = some u) (hi : ∀ ms, u ≠ .interface ms) (hz : (zeroValue A).run P w = .ok z w) (h : t ≠ A) :
    (Instr.typeAssert (.iface t x) X A true).run P w = .ok (.tuple #[z, .bool false]) w := by
  unfold Instr.typeAssert
  cases u <;> simp [run_underlying hu, h, hz, Result.andThen] <;> exact absurd rfl (hi _)
theorem run_ta_yes (w : World) {A X : TypeId} {x : Value} {u : TypeDesc} (hu : P.underlying A = some u) (hi : ∀ ms, u ≠ .interface ms) :
    (Instr.typeAssert (.iface A x) X A true).run P w = .ok (.tuple #[x, .bool true]) w := by
  unfold Instr.typeAssert
  cases u <;> simp [run_underlying hu, Result.andThen] <;> exact absurd rfl (hi _)
theorem run_ta_nil (w : World) {A X : TypeId} {z : Value} {u : TypeDesc} (hu : P.underlying A = some u) (hi : ∀ ms, u ≠ .interface ms) (hz : (zeroValue A).run P w = .ok z w) :
    (Instr.typeAssert .nilIface X A true).run P w = .ok (.tuple #[z, .bool false]) w := by
  unfold Instr.typeAssert
  cases u <;> simp [run_underlying hu, hz, Result.andThen] <;> exact absurd rfl (hi _)
end
section
variable (w : World) (t X : TypeId) (x : Value)
theorem ta_no_bool (h : t ≠ 4) : (Instr.typeAssert (.iface t x) X 4 true).run Tryz.prog w = .ok (.tuple #[.bool false, .bool false]) w := run_ta_no w Tryz.underlying4 (fun _ h => by cases h) (by kernel_rfl) h
theorem ta_yes_bool : (Instr.typeAssert (.iface 4 x) X 4 true).run Tryz.prog w = .ok (.tuple #[x, .bool true]) w := run_ta_yes w Tryz.underlying4 (fun _ h => by cases h)
theorem ta_nil_bool : (Instr.typeAssert .nilIface X 4 true).run Tryz.prog w = .ok (.tuple #[.bool false, .bool false]) w := run_ta_nil w Tryz.underlying4 (fun _ h => by cases h) (by kernel_rfl)
theorem ta_no_int64 (h : t ≠ 2) : (Instr.typeAssert (.iface t x) X 2 true).run Tryz.prog w = .ok (.tuple #[.int .i64 0, .bool false]) w := run_ta_no w Tryz.underlying2 (fun _ h => by cases h) (by kernel_rfl) h
theorem ta_yes_int64 : (Instr.typeAssert (.iface 2 x) X 2 true).run Tryz.prog w = .ok (.tuple #[x, .bool true]) w := run_ta_yes w Tryz.underlying2 (fun _ h => by cases h)
theorem ta_nil_int64 : (Instr.typeAssert .nilIface X 2 true).run Tryz.prog w = .ok (.tuple #[.int .i64 0, .bool false]) w := run_ta_nil w Tryz.underlying2 (fun _ h => by cases h) (by kernel_rfl)
theorem ta_no_flt (h : t ≠ 22) : (Instr.typeAssert (.iface t x) X 22 true).run Tryz.prog w = .ok (.tuple #[.float .f64 0, .bool false]) w := run_ta_no w Tryz.underlying22 (fun _ h => by cases h) (by kernel_rfl) h
theorem ta_yes_flt : (Instr.typeAssert (.iface 22 x) X 22 true).run Tryz.prog w = .ok (.tuple #[x, .bool true]) w := run_ta_yes w Tryz.underlying22 (fun _ h => by cases h)
theorem ta_nil_flt : (Instr.typeAssert .nilIface X 22 true).run Tryz.prog w = .ok (.tuple #[.float .f64 0, .bool false]) w := run_ta_nil w Tryz.underlying22 (fun _ h => by cases h) (by kernel_rfl)
theorem ta_no_str (h : t ≠ 9) : (Instr.typeAssert (.iface t x) X 9 true).run Tryz.prog w = .ok (.tuple #[.string ⟨#[]⟩, .bool false]) w := run_ta_no w Tryz.underlying9 (fun _ h => by cases h) (by kernel_rfl) h
theorem ta_yes_str : (Instr.typeAssert (.iface 9 x) X 9 true).run Tryz.prog w = .ok (.tuple #[x, .bool true]) w := run_ta_yes w Tryz.underlying9 (fun _ h => by cases h)
theorem ta_nil_str : (Instr.typeAssert .nilIface X 9 true).run Tryz.prog w = .ok (.tuple #[.string ⟨#[]⟩, .bool false]) w := run_ta_nil w Tryz.underlying9 (fun _ h => by cases h) (by kernel_rfl)
theorem ta_no_byt (h : t ≠ 23) : (Instr.typeAssert (.iface t x) X 23 true).run Tryz.prog w = .ok (.tuple #[.slice none 0 0, .bool false]) w := run_ta_no w Tryz.underlying23 (fun _ h => by cases h) (by kernel_rfl) h
theorem ta_yes_byt : (Instr.typeAssert (.iface 23 x) X 23 true).run Tryz.prog w = .ok (.tuple #[x, .bool true]) w := run_ta_yes w Tryz.underlying23 (fun _ h => by cases h)
theorem ta_nil_byt : (Instr.typeAssert .nilIface X 23 true).run Tryz.prog w = .ok (.tuple #[.slice none 0 0, .bool false]) w := run_ta_nil w Tryz.underlying23 (fun _ h => by cases h) (by kernel_rfl)
theorem ta_no_ref (h : t ≠ 25) : (Instr.typeAssert (.iface t x) X 25 true).run Tryz.prog w = .ok (.tuple #[.int .u64 0, .bool false]) w := run_ta_no w Tryz.underlying25 (fun _ h => by cases h) (by kernel_rfl) h
theorem ta_yes_ref : (Instr.typeAssert (.iface 25 x) X 25 true).run Tryz.prog w = .ok (.tuple #[x, .bool true]) w := run_ta_yes w Tryz.underlying25 (fun _ h => by cases h)
theorem ta_nil_ref : (Instr.typeAssert .nilIface X 25 true).run Tryz.prog w = .ok (.tuple #[.int .u64 0, .bool false]) w := run_ta_nil w Tryz.underlying25 (fun _ h => by cases h) (by kernel_rfl)
theorem ta_no_lst (h : t ≠ 43) : (Instr.typeAssert (.iface t x) X 43 true).run Tryz.prog w = .ok (.tuple #[.slice none 0 0, .bool false]) w := run_ta_no w Tryz.underlying43 (fun _ h => by cases h) (by kernel_rfl) h
theorem ta_yes_lst : (Instr.typeAssert (.iface 43 x) X 43 true).run Tryz.prog w = .ok (.tuple #[x, .bool true]) w := run_ta_yes w Tryz.underlying43 (fun _ h => by cases h)
theorem ta_nil_lst : (Instr.typeAssert .nilIface X 43 true).run Tryz.prog w = .ok (.tuple #[.slice none 0 0, .bool false]) w := run_ta_nil w Tryz.underlying43 (fun _ h => by cases h) (by kernel_rfl)
theorem ta_no_dct (h : t ≠ 41) : (Instr.typeAssert (.iface t x) X 41 true).run Tryz.prog w = .ok (.tuple #[.slice none 0 0, .bool false]) w := run_ta_no w Tryz.underlying41 (fun _ h => by cases h) (by kernel_rfl) h
theorem ta_yes_dct : (Instr.typeAssert (.iface 41 x) X 41 true).run Tryz.prog w = .ok (.tuple #[x, .bool true]) w := run_ta_yes w Tryz.underlying41 (fun _ h => by cases h)
theorem ta_nil_dct : (Instr.typeAssert .nilIface X 41 true).run Tryz.prog w = .ok (.tuple #[.slice none 0 0, .bool false]) w := run_ta_nil w Tryz.underlying41 (fun _ h => by cases h) (by kernel_rfl)
theorem ta_no_rec (h : t ≠ 32) : (Instr.typeAssert (.iface t x) X 32 true).run Tryz.prog w = .ok (.tuple #[.pointer none, .bool false]) w := run_ta_no w Tryz.underlying32 (fun _ h => by cases h) (by kernel_rfl) h
theorem ta_yes_rec : (Instr.typeAssert (.iface 32 x) X 32 true).run Tryz.prog w = .ok (.tuple #[x, .bool true]) w := run_ta_yes w Tryz.underlying32 (fun _ h => by cases h)
theorem ta_nil_rec : (Instr.typeAssert .nilIface X 32 true).run Tryz.prog w = .ok (.tuple #[.pointer none, .bool false]) w := run_ta_nil w Tryz.underlying32 (fun _ h => by cases h) (by kernel_rfl)
end
end Go.Proofs.YtobpkelblpdajaaGreatDoor
