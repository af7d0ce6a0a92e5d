/- Walks: a value that cannot be, told by a type's check, a query, a heap, a registry; what is nothing. -/
import Derived.Test.YtobpkelblpdajaaGreatDoorNL29
set_option linter.unusedVariables false
set_option linter.unusedSimpArgs false
set_option linter.unusedSectionVars false
namespace Go.Proofs.YtobpkelblpdajaaGreatDoor
open Go Go.RowKit
def typA : Value := .agg #[.int .i64 1, .int .i64 0, .int .i64 0, .bool false, .int .i64 0, .float .f64 0, .string ⟨#[]⟩, .slice none 0 0, .int .u64 0, .slice none 0 0, .slice none 0 0, .string ⟨#[]⟩, .int .i64 0, .slice none 0 0, .slice none 0 0, .slice none 0 0, .bool false, .string ⟨#[]⟩]
def expA : Value := .agg #[.string ⟨#[115, 101, 108, 102]⟩, .int .i64 0, .slice none 0 0, .string ⟨#[]⟩, .int .i64 0, .bool false, .int .i64 0, .float .f64 0, .string ⟨#[]⟩, .slice none 0 0, .int .u64 0, .slice none 0 0, .slice none 0 0, .string ⟨#[]⟩, .int .i64 0]
set_option maxRecDepth 100000 in
set_option maxHeartbeats 1000000 in
theorem can_bad (x : V) (v : Value) (w : World) (h : Rd w w.heap.size x v) (hz : (checkV x).2 ≠ 0) : Calls Tryz.prog 60 #[v, typA] w fun e w' => e = .returned (.int .i64 (checkV x).2) ∧ Below w.heap.size w w' := by
  have HC : Hid (∀ W, Below w.heap.size w W → Calls Tryz.prog 13 #[v] W (fun e w' => e = .returned (.tuple #[.int .i64 (checkV x).1, .int .i64 (checkV x).2]) ∧ Below W.heap.size W w')) := Lib.hid (fun W hW => check_out x v W (Rd.more hW.size _ _ (h.below hW)))
  have hb0 : Below w.heap.size w (w.alloc (.cells #[.int .i64 1, .int .i64 0, .int .i64 0, .bool false, .int .i64 0, .float .f64 0, .string ⟨#[]⟩, .slice none 0 0, .int .u64 0, .slice none 0 0, .slice none 0 0, .string ⟨#[]⟩, .int .i64 0, .slice none 0 0, .slice none 0 0, .slice none 0 0, .bool false, .string ⟨#[]⟩] 68)) := (Below.refl _ _).alloc (Nat.le_refl _) _
  generalize checkV x = ck at *
  have hq : ((ck.2 : Int) != 0) = true := by rw [bne_iff_ne]; omega
  clear h hz
  unfold typA
  go_enter Tryz.func60, Tryz.ntmps60
  go_wp2_with fail
  refine (HC.out _ hb0).mono ?_
  rintro e w1 ⟨rfl, hb1⟩
  go_wp2
  go_ret
  exact ⟨rfl, below_then hb0 (Nat.le_refl _) hb1⟩
set_option maxRecDepth 100000 in
set_option maxHeartbeats 1000000 in
theorem is_bad (x : V) (v : Value) (w : World) (h : Rd w w.heap.size x v) (hz : (checkV x).2 ≠ 0) : Calls Tryz.prog 22 #[v, typA] w (ErrPost [.bool false, .int .i64 0] (checkV x).2 w) := by
  have HC : Hid (∀ W, Below w.heap.size w W → Calls Tryz.prog 60 #[v, typA] W (fun e w' => e = .returned (.int .i64 (checkV x).2) ∧ Below W.heap.size W w')) := Lib.hid (fun W hW => can_bad x v W (Rd.more hW.size _ _ (h.below hW)) hz)
  have hb0 : Below w.heap.size w (w.alloc (.cells #[.int .i64 1, .int .i64 0, .int .i64 0, .bool false, .int .i64 0, .float .f64 0, .string ⟨#[]⟩, .slice none 0 0, .int .u64 0, .slice none 0 0, .slice none 0 0, .string ⟨#[]⟩, .int .i64 0, .slice none 0 0, .slice none 0 0, .slice none 0 0, .bool false, .string ⟨#[]⟩] 68)) := (Below.refl _ _).alloc (Nat.le_refl _) _
  generalize checkV x = ck at *
  have hq : ((ck.2 : Int) != 0) = true := by rw [bne_iff_ne]; omega
  clear h hz
  unfold typA at *
  go_enter Tryz.func22, Tryz.ntmps22
  go_wp2_with fail
  refine (HC.out _ hb0).mono ?_
  rintro e w1 ⟨rfl, hb1⟩
  go_wp2
  go_ret3
  exact ⟨rfl, below_then hb0 (Nat.le_refl _) hb1⟩
theorem three_set {w : World} {b : Nat} {u0 u1 u2 : Value} (x y z : Value) (h0 : w.cell? ⟨b, 0, none⟩ = some u0) (h1 : w.cell? ⟨b + 1, 0, none⟩ = some u1) (h2 : w.cell? ⟨b + 1 + 1, 0, none⟩ = some u2) :
    (((w.setCell ⟨b, 0, none⟩ x).setCell ⟨b + 1, 0, none⟩ y).setCell ⟨b + 1 + 1, 0, none⟩ z).cell? ⟨b, 0, none⟩ = some x ∧ (((w.setCell ⟨b, 0, none⟩ x).setCell ⟨b + 1, 0, none⟩ y).setCell ⟨b + 1 + 1, 0, none⟩ z).cell? ⟨b + 1, 0, none⟩ = some y ∧ (((w.setCell ⟨b, 0, none⟩ x).setCell ⟨b + 1, 0, none⟩ y).setCell ⟨b + 1 + 1, 0, none⟩ z).cell? ⟨b + 1 + 1, 0, none⟩ = some z ∧ Below b w (((w.setCell ⟨b, 0, none⟩ x).setCell ⟨b + 1, 0, none⟩ y).setCell ⟨b + 1 + 1, 0, none⟩ z) := by
  refine ⟨?_, ?_, ?_, ?_⟩
  · rw [World.cell?_setCell_other _ _ _ _ (by intro h; injection h with h; omega), World.cell?_setCell_other _ _ _ _ (by intro h; injection h with h; omega)]
    exact World.cell?_setCell_same _ _ _ h0
  · rw [World.cell?_setCell_other _ _ _ _ (by intro h; injection h with h; omega)]
    exact World.cell?_setCell_same _ _ _ ((World.cell?_setCell_other _ _ _ _ (by intro h; injection h with h; omega)).trans h1)
  · exact World.cell?_setCell_same _ _ _ ((World.cell?_setCell_other _ _ _ _ (by intro h; injection h with h; omega)).trans ((World.cell?_setCell_other _ _ _ _ (by intro h; injection h with h; omega)).trans h2))
  · exact (((Below.refl b w).setCell (p := ⟨b, 0, none⟩) (Nat.le_refl _) _).setCell (p := ⟨b + 1, 0, none⟩) (Nat.le_succ _) _).setCell (p := ⟨b + 1 + 1, 0, none⟩) (by show b ≤ b + 1 + 1; omega) _
theorem eval_leaves {R : Ending → World → Prop} {tmps : Array Value} {b : Nat} {W : World} {x y z : Value} (h4 : tmps[4]?.getD undef = .pointer (some ⟨b, 0, none⟩)) (h5 : tmps[5]?.getD undef = .pointer (some ⟨b + 1, 0, none⟩)) (h6 : tmps[6]?.getD undef = .pointer (some ⟨b + 1 + 1, 0, none⟩))
    (c0 : W.cell? ⟨b, 0, none⟩ = some x) (c1 : W.cell? ⟨b + 1, 0, none⟩ = some y) (c2 : W.cell? ⟨b + 1 + 1, 0, none⟩ = some z) (hR : R (.returned (.tuple #[x, y, z])) W) : Leaves Tryz.prog Tryz.f62 tmps R [] .returning W := by
  simp [Leaves, settle, results, Tryz.results62, go_sem, h4, h5, h6, c0, c1, c2]
  exact hR
set_option maxRecDepth 100000 in
set_option maxHeartbeats 1000000 in
theorem eval_bad (x : V) (v : Value) (w : World) (h : Rd w w.heap.size x v) (hz : (checkV x).2 ≠ 0) : Calls Tryz.prog 62 #[expA, v] w (ErrPost [.nilIface, .int .i64 0] (checkV x).2 w) := by
  have HC : Hid (∀ W, Below w.heap.size w W → Calls Tryz.prog 13 #[v] W (fun e w' => e = .returned (.tuple #[.int .i64 (checkV x).1, .int .i64 (checkV x).2]) ∧ Below W.heap.size W w')) := Lib.hid (fun W hW => check_out x v W (Rd.more hW.size _ _ (h.below hW)))
  generalize checkV x = ck at *
  have hq : ((ck.2 : Int) != 0) = true := by rw [bne_iff_ne]; omega
  clear h hz
  unfold expA
  have hB : Below w.heap.size w ((((w.alloc (.cells #[.string ⟨#[115, 101, 108, 102]⟩, .int .i64 0, .slice none 0 0, .string ⟨#[]⟩, .int .i64 0, .bool false, .int .i64 0, .float .f64 0, .string ⟨#[]⟩, .slice none 0 0, .int .u64 0, .slice none 0 0, .slice none 0 0, .string ⟨#[]⟩, .int .i64 0] 73)).alloc (.cells #[.nilIface] 20)).alloc (.cells #[.int .i64 0] 3)).alloc (.cells #[.int .i64 0] 31)) := ((((Below.refl _ _).alloc (Nat.le_refl _) _).alloc (by simp) _).alloc (by simp; omega) _).alloc (by simp; omega) _
  have HB := Lib.hid hB
  have HSz : Hid (((((w.alloc (.cells #[.string ⟨#[115, 101, 108, 102]⟩, .int .i64 0, .slice none 0 0, .string ⟨#[]⟩, .int .i64 0, .bool false, .int .i64 0, .float .f64 0, .string ⟨#[]⟩, .slice none 0 0, .int .u64 0, .slice none 0 0, .slice none 0 0, .string ⟨#[]⟩, .int .i64 0] 73)).alloc (.cells #[.nilIface] 20)).alloc (.cells #[.int .i64 0] 3)).alloc (.cells #[.int .i64 0] 31)).heap.size = w.heap.size + 4) := Lib.hid (by simp)
  clear hB
  go_enter_defers Tryz.func62, Tryz.ntmps62
  go_wp2_with fail
  refine (HC.out _ HB.out).mono ?_
  rintro e w1 ⟨rfl, hb1⟩
  have q1 : w1.cell? ⟨w.heap.size + 1, 0, none⟩ = some .nilIface := (hb1.cell (p := ⟨w.heap.size + 1, 0, none⟩) (by simp)).trans (by simp [go_sem])
  have q2 : w1.cell? ⟨w.heap.size + 1 + 1, 0, none⟩ = some (.int .i64 0) := (hb1.cell (p := ⟨w.heap.size + 1 + 1, 0, none⟩) (by simp)).trans (by simp [go_sem])
  have q3 : w1.cell? ⟨w.heap.size + 1 + 1 + 1, 0, none⟩ = some (.int .i64 0) := (hb1.cell (p := ⟨w.heap.size + 1 + 1 + 1, 0, none⟩) (by simp)).trans (by simp [go_sem])
  have f1 : w1.frozen? ⟨w.heap.size + 1, 0, none⟩ = false := (hb1.frozen (p := ⟨w.heap.size + 1, 0, none⟩) (by simp)).trans (by simp [go_sem])
  have f2 : w1.frozen? ⟨w.heap.size + 1 + 1, 0, none⟩ = false := (hb1.frozen (p := ⟨w.heap.size + 1 + 1, 0, none⟩) (by simp)).trans (by simp [go_sem])
  have f3 : w1.frozen? ⟨w.heap.size + 1 + 1 + 1, 0, none⟩ = false := (hb1.frozen (p := ⟨w.heap.size + 1 + 1 + 1, 0, none⟩) (by simp)).trans (by simp [go_sem])
  go_wp2
  have T := three_set .nilIface (.int .i64 0) (.int .i64 ck.2) q1 q2 q3
  refine eval_leaves rfl rfl rfl T.1 T.2.1 T.2.2.1 ?_
  exact ⟨rfl, HB.out.trans ((hb1.mono (by rw [HSz.out]; omega)).trans (T.2.2.2.mono (by omega)))⟩
set_option maxRecDepth 100000 in
set_option maxHeartbeats 1000000 in
theorem Eval_bad (x : V) (v : Value) (w : World) (h : Rd w w.heap.size x v) (hz : (checkV x).2 ≠ 0) : Calls Tryz.prog 23 #[expA, v] w (ErrPost [.nilIface, .int .i64 0] (checkV x).2 w) := by
  have HC : Hid (∀ W, Below w.heap.size w W → Calls Tryz.prog 62 #[expA, v] W (fun e w' => e = .returned (.tuple #[.nilIface, .int .i64 0, .int .i64 (checkV x).2]) ∧ Below W.heap.size W w')) := Lib.hid (fun W hW => eval_bad x v W (Rd.more hW.size _ _ (h.below hW)) hz)
  have hb0 : Below w.heap.size w (w.alloc (.cells #[.string ⟨#[115, 101, 108, 102]⟩, .int .i64 0, .slice none 0 0, .string ⟨#[]⟩, .int .i64 0, .bool false, .int .i64 0, .float .f64 0, .string ⟨#[]⟩, .slice none 0 0, .int .u64 0, .slice none 0 0, .slice none 0 0, .string ⟨#[]⟩, .int .i64 0] 73)) := (Below.refl _ _).alloc (Nat.le_refl _) _
  generalize checkV x = ck at *
  have hq : ((ck.2 : Int) != 0) = true := by rw [bne_iff_ne]; omega
  clear h hz
  unfold expA at *
  go_enter Tryz.func23, Tryz.ntmps23
  go_wp2_with fail
  refine (HC.out _ hb0).mono ?_
  rintro e w1 ⟨rfl, hb1⟩
  go_wp2
  go_ret3
  exact ⟨rfl, below_then hb0 (Nat.le_refl _) hb1⟩
end Go.Proofs.YtobpkelblpdajaaGreatDoor
