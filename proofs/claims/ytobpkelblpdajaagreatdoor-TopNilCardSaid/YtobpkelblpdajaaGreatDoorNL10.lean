/- Walks: value.check, value.Check. -/
import Derived.Test.YtobpkelblpdajaaGreatDoorNL09
set_option linter.unusedVariables false
set_option linter.unusedSimpArgs false
set_option linter.unusedSectionVars false
namespace Go.Proofs.YtobpkelblpdajaaGreatDoor
open Go Go.RowKit
noncomputable def checkV (x : V) : Nat × Nat := if (partV x 1 ⟨0, 0, 0⟩).1 = true then (0, 0) else ((partV x 1 ⟨0, 0, 0⟩).2.n, (partV x 1 ⟨0, 0, 0⟩).2.why)
theorem checkV_yes {x : V} (h : (partV x 1 ⟨0, 0, 0⟩).1 = true) : checkV x = (0, 0) := by unfold checkV; rw [if_pos h]
theorem checkV_no {x : V} (h : (partV x 1 ⟨0, 0, 0⟩).1 = false) : checkV x = ((partV x 1 ⟨0, 0, 0⟩).2.n, (partV x 1 ⟨0, 0, 0⟩).2.why) := by unfold checkV; rw [if_neg (by rw [h]; simp)]
def CheckPost (x : V) (w : World) (e : Ending) (w' : World) : Prop := e = .returned (.tuple #[.int .i64 (checkV x).1, .int .i64 (checkV x).2]) ∧ Below w.heap.size w w'
theorem cnt_new (w : World) (t : TypeId) : CntAt (w.alloc (.cells #[.int .i64 0, .int .i64 0, .int .i64 0] t)) w.heap.size ⟨0, 0, 0⟩ := by
  refine ⟨⟨?_, ?_⟩, ⟨?_, ?_⟩, ⟨?_, ?_⟩⟩ <;> simp [go_sem]
set_option maxRecDepth 100000 in
set_option maxHeartbeats 1000000 in
theorem check_any (x : V) (v : Value) (w : World) (h : Rd w w.heap.size x v) : Calls Tryz.prog 48 #[v] w (CheckPost x w) := by
  have hb0 : Below w.heap.size w (w.alloc (.cells #[.int .i64 0, .int .i64 0, .int .i64 0] 175)) := (Below.refl _ _).alloc (Nat.le_refl _) _
  have HP := Lib.hid (part_any x v 1 ⟨0, 0, 0⟩ _ w.heap.size w.heap.size (h.below hb0) (Nat.le_refl _) (by simp [go_sem]) (by omega) (cnt_new w 175))
  have HB := Lib.hid hb0
  cases hq : (partV x 1 ⟨0, 0, 0⟩).1
  · have HF := Lib.hid (checkV_no hq)
    generalize partV x 1 ⟨0, 0, 0⟩ = r at *
    clear h hb0
    go_enter Tryz.func48, Tryz.ntmps48
    go_wp2_with fail
    refine HP.out.mono ?_
    rintro e w1 ⟨rfl, hb1, hc1⟩
    obtain ⟨⟨a1, a2⟩, ⟨b1, b2⟩, ⟨c1, c2⟩⟩ := hc1
    go_wp2_with fail
    go_quiet (fail)
    go_wp2
    go_ret2
    exact ⟨by rw [HF.out]; rfl, below_drewN (HB.out.trans hb1) _⟩
  · have HF := Lib.hid (checkV_yes hq)
    generalize partV x 1 ⟨0, 0, 0⟩ = r at *
    clear h hb0
    go_enter Tryz.func48, Tryz.ntmps48
    go_wp2_with fail
    refine HP.out.mono ?_
    rintro e w1 ⟨rfl, hb1, hc1⟩
    go_wp2
    go_ret2
    exact ⟨by rw [HF.out]; rfl, HB.out.trans hb1⟩
set_option maxRecDepth 100000 in
set_option maxHeartbeats 1000000 in
theorem check_out (x : V) (v : Value) (w : World) (h : Rd w w.heap.size x v) : Calls Tryz.prog 13 #[v] w (CheckPost x w) := by
  have HP := Lib.hid (check_any x v w h)
  clear h
  go_enter Tryz.func13, Tryz.ntmps13
  go_wp2_with fail
  refine HP.out.mono ?_
  rintro e w1 ⟨rfl, hb1⟩
  go_wp2
  go_ret2
  exact ⟨rfl, hb1⟩
end Go.Proofs.YtobpkelblpdajaaGreatDoor
