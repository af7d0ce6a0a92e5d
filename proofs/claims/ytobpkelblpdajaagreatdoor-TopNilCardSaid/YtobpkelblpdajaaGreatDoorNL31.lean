/- Walks: an empty heap; a record that cannot be is refused by it and by a registry; what is nothing, what is hollow. -/
import Derived.Test.YtobpkelblpdajaaGreatDoorNL28
import Derived.Test.YtobpkelblpdajaaGreatDoorNL16
import Derived.Laws.OwnMore
set_option linter.unusedVariables false
set_option linter.unusedSimpArgs false
set_option linter.unusedSectionVars false
namespace Go.Proofs.YtobpkelblpdajaaGreatDoor
open Go Go.RowKit
def HeapAt (w : World) (b m : Nat) : Prop := w.cell? ⟨b, 7, none⟩ = some (.bool false) ∧ w.cell? ⟨b, 2, none⟩ = some (.map (some m)) ∧ w.heap[m]? = some (.map #[] 0) ∧ b < w.heap.size ∧ m < w.heap.size
theorem HeapAt.below {w w' : World} {b m : Nat} (h : HeapAt w b m) (hb : Below w.heap.size w w') : HeapAt w' b m := by
  obtain ⟨h1, h2, h3, h4, h5⟩ := h
  exact ⟨(hb.cell (p := ⟨b, 7, none⟩) h4).trans h1, (hb.cell (p := ⟨b, 2, none⟩) h4).trans h2, (hb.block m h5).trans h3, Nat.lt_of_lt_of_le h4 hb.size, Nat.lt_of_lt_of_le h5 hb.size⟩
def NewPost (w : World) (e : Ending) (w' : World) : Prop := ∃ b m, e = .returned (.tuple #[.pointer (some ⟨b, 0, none⟩), .int .i64 0]) ∧ HeapAt w' b m ∧ Below w.heap.size w w'
def MadePost (w : World) (e : Ending) (w' : World) : Prop := ∃ b m, e = .returned (.pointer (some ⟨b, 0, none⟩)) ∧ HeapAt w' b m ∧ Below w.heap.size w w'
set_option maxRecDepth 100000 in
set_option maxHeartbeats 1000000 in
theorem hmade (w : World) : Calls Tryz.prog 63 #[.int .i64 2] w (MadePost w) := by
  have hm := run_mk Tryz.prog
  go_enter Tryz.func63, Tryz.ntmps63
  go_wp2
  go_ret
  refine ⟨w.heap.size + 1 + 1 + 1, w.heap.size, ?_, ⟨?_, ?_, ?_, ?_, ?_⟩, ?_⟩
  · simp
  · simp [go_sem]
  · simp [go_sem]
  · rw [heap_alloc_old _ _ (by simp; omega), heap_alloc_old _ _ (by simp; omega), heap_alloc_old _ _ (by simp), heap_alloc_new]
  · simp
  · simp; omega
  · exact ((((Below.refl _ _).alloc (Nat.le_refl _) _).alloc (by simp) _).alloc (by simp; omega) _).alloc (by simp; omega) _
set_option maxRecDepth 100000 in
set_option maxHeartbeats 1000000 in
theorem hnew (w : World) : Calls Tryz.prog 24 #[.int .i64 2] w (NewPost w) := by
  have HM := Lib.hid (hmade w)
  go_enter Tryz.func24, Tryz.ntmps24
  go_wp2_with fail
  refine HM.out.mono ?_
  rintro e w1 ⟨b, m, rfl, hh, hb⟩
  go_wp2
  go_ret2
  exact ⟨b, m, rfl, hh, hb⟩
set_option maxRecDepth 100000 in
set_option maxHeartbeats 1000000 in
theorem hlen (b m : Nat) (w : World) (h : HeapAt w b m) : Calls Tryz.prog 27 #[.pointer (some ⟨b, 0, none⟩)] w fun e w' => e = .returned (.int .i64 0) ∧ w' = w := by
  obtain ⟨-, h2, h3, -, -⟩ := h
  have hl : ∀ ty, (Builtin.len_ #[144] ty #[.map (some m)]).run Tryz.prog w = .ok (.int .i64 0) w := fun ty => by
    simp [Builtin.len_, run_underlying Tryz.underlying144, run_getObj_map w m #[] 0 h3, goInt]
  go_enter Tryz.func27, Tryz.ntmps27
  go_wp2
  go_ret
  exact ⟨rfl, rfl⟩
set_option maxRecDepth 100000 in
set_option maxHeartbeats 1000000 in
theorem fits_bad (q : Value) (a : Addr) (x : V) (w : World) (h : Rd w w.heap.size x (.iface 32 (.pointer (some a)))) (hz : (checkV x).2 ≠ 0) : Calls Tryz.prog 64 #[q, .pointer (some a), .int .u64 0] w (ErrPost [.slice none 0 0] (checkV x).2 w) := by
  have HC : Hid (∀ W, Below w.heap.size w W → Calls Tryz.prog 13 #[.iface 32 (.pointer (some a))] W (fun e w' => e = .returned (.tuple #[.int .i64 (checkV x).1, .int .i64 (checkV x).2]) ∧ Below W.heap.size W w')) := Lib.hid (fun W hW => check_out x _ W (Rd.more hW.size _ _ (h.below hW)))
  generalize checkV x = ck at *
  have hq : ((ck.2 : Int) != 0) = true := by rw [bne_iff_ne]; omega
  clear h hz
  go_enter Tryz.func64, Tryz.ntmps64
  go_wp2_with fail
  refine (HC.out _ (Below.refl _ _)).mono ?_
  rintro e w1 ⟨rfl, hb1⟩
  go_wp2
  go_ret2
  exact ⟨rfl, hb1⟩
set_option maxRecDepth 100000 in
set_option maxHeartbeats 1000000 in
theorem fits_nil (q : Value) (w : World) : Calls Tryz.prog 64 #[q, .pointer none, .int .u64 0] w fun e w' => e = .returned (.tuple #[.slice none 0 0, .int .i64 7]) ∧ w' = w := by
  go_enter Tryz.func64, Tryz.ntmps64
  go_wp2
  go_ret2
  exact ⟨rfl, rfl⟩
set_option maxRecDepth 100000 in
set_option maxHeartbeats 1000000 in
theorem add_bad (b m : Nat) (a : Addr) (x : V) (w : World) (hh : HeapAt w b m) (h : Rd w w.heap.size x (.iface 32 (.pointer (some a)))) (hz : (checkV x).2 ≠ 0) : Calls Tryz.prog 25 #[.pointer (some ⟨b, 0, none⟩), .pointer (some a)] w (ErrPost [.int .u64 0] (checkV x).2 w) := by
  have HF : Hid (Calls Tryz.prog 64 #[.pointer (some ⟨b, 0, none⟩), .pointer (some a), .int .u64 0] w (fun e w' => e = .returned (.tuple #[.slice none 0 0, .int .i64 (checkV x).2]) ∧ Below w.heap.size w w')) := Lib.hid (fits_bad _ a x w h hz)
  obtain ⟨h1, -, -, -, -⟩ := hh
  generalize checkV x = ck at *
  have hq : ((ck.2 : Int) != 0) = true := by rw [bne_iff_ne]; omega
  clear h hz
  go_enter Tryz.func25, Tryz.ntmps25
  go_wp2_with fail
  refine HF.out.mono ?_
  rintro e w1 ⟨rfl, hb1⟩
  go_wp2
  go_ret2
  exact ⟨rfl, hb1⟩
set_option maxRecDepth 100000 in
set_option maxHeartbeats 1000000 in
theorem add_nil (b m : Nat) (w : World) (hh : HeapAt w b m) : Calls Tryz.prog 25 #[.pointer (some ⟨b, 0, none⟩), .pointer none] w (ErrPost [.int .u64 0] 7 w) := by
  have HF := Lib.hid (fits_nil (.pointer (some ⟨b, 0, none⟩)) w)
  obtain ⟨h1, -, -, -, -⟩ := hh
  go_enter Tryz.func25, Tryz.ntmps25
  go_wp2_with fail
  refine HF.out.mono ?_
  rintro e w1 ⟨rfl, rfl⟩
  go_wp2
  go_ret2
  exact ⟨rfl, Below.refl _ _⟩
set_option maxRecDepth 100000 in
set_option maxHeartbeats 1000000 in
theorem conv_bad (q : Value) (a : Addr) (x : V) (w : World) (h : Rd w w.heap.size x (.iface 32 (.pointer (some a)))) (hz : (checkV x).2 ≠ 0) : Calls Tryz.prog 67 #[q, .pointer (some a), .int .i64 1] w (ErrPost [.pointer none] (checkV x).2 w) := by
  have HC : Hid (Calls Tryz.prog 14 #[.iface 32 (.pointer (some a))] w (fun e w' => e = .returned (.tuple #[.nilIface, .int .i64 (checkV x).2]) ∧ Below w.heap.size w w')) := Lib.hid (copy_bad x _ w h hz)
  generalize checkV x = ck at *
  have hq : ((ck.2 : Int) != 0) = true := by rw [bne_iff_ne]; omega
  clear h hz
  go_enter Tryz.func67, Tryz.ntmps67
  go_wp2_with fail
  refine HC.out.mono ?_
  rintro e w1 ⟨rfl, hb1⟩
  go_wp2
  go_ret2
  exact ⟨rfl, hb1⟩
set_option maxRecDepth 100000 in
set_option maxHeartbeats 1000000 in
theorem Conv_bad (q : Value) (a : Addr) (x : V) (w : World) (h : Rd w w.heap.size x (.iface 32 (.pointer (some a)))) (hz : (checkV x).2 ≠ 0) : Calls Tryz.prog 26 #[q, .pointer (some a), .int .i64 1] w (ErrPost [.pointer none] (checkV x).2 w) := by
  have HC : Hid (Calls Tryz.prog 67 #[q, .pointer (some a), .int .i64 1] w (fun e w' => e = .returned (.tuple #[.pointer none, .int .i64 (checkV x).2]) ∧ Below w.heap.size w w')) := Lib.hid (conv_bad q a x w h hz)
  generalize checkV x = ck at *
  have hq : ((ck.2 : Int) != 0) = true := by rw [bne_iff_ne]; omega
  clear h hz
  go_enter Tryz.func26, Tryz.ntmps26
  go_wp2_with fail
  refine HC.out.mono ?_
  rintro e w1 ⟨rfl, hb1⟩
  go_wp2
  go_ret2
  exact ⟨rfl, hb1⟩
theorem ta_yes_thing (w : World) (x : Value) : (Instr.typeAssert (.iface 89 x) 156 89 true).run Tryz.prog w = .ok (.tuple #[x, .bool true]) w := run_ta_yes w Tryz.underlying89 (fun _ h => by cases h)
set_option maxRecDepth 100000 in
set_option maxHeartbeats 1000000 in
theorem holds_nothing (w : World) : Calls Tryz.prog 68 #[.nilIface] w fun e w' => e = .returned (.int .i64 1) ∧ w' = w := by
  have k0 := fun (W : World) (x : Value) => ta_yes_thing W x
  go_enter Tryz.func68, Tryz.ntmps68
  go_wp2
  go_ret
  exact ⟨rfl, rfl⟩
set_option maxRecDepth 100000 in
set_option maxHeartbeats 1000000 in
theorem Holds_nothing (w : World) : Calls Tryz.prog 29 #[.nilIface] w fun e w' => e = .returned (.int .i64 1) ∧ w' = w := by
  have HH := Lib.hid (holds_nothing w)
  go_enter Tryz.func29, Tryz.ntmps29
  go_wp2_with fail
  refine HH.out.mono ?_
  rintro e w1 ⟨rfl, rfl⟩
  go_wp2
  go_ret
  exact ⟨rfl, rfl⟩
set_option maxRecDepth 100000 in
set_option maxHeartbeats 1000000 in
theorem holds_hollow (w : World) : Calls Tryz.prog 68 #[.iface 89 (.pointer none)] w fun e w' => e = .returned (.int .i64 2) ∧ w' = w := by
  have k0 := fun (W : World) (x : Value) => ta_yes_thing W x
  go_enter Tryz.func68, Tryz.ntmps68
  go_wp2
  go_ret
  exact ⟨rfl, rfl⟩
set_option maxRecDepth 100000 in
set_option maxHeartbeats 1000000 in
theorem Holds_hollow (w : World) : Calls Tryz.prog 29 #[.iface 89 (.pointer none)] w fun e w' => e = .returned (.int .i64 2) ∧ w' = w := by
  have HH := Lib.hid (holds_hollow w)
  go_enter Tryz.func29, Tryz.ntmps29
  go_wp2_with fail
  refine HH.out.mono ?_
  rintro e w1 ⟨rfl, rfl⟩
  go_wp2
  go_ret
  exact ⟨rfl, rfl⟩
end Go.Proofs.YtobpkelblpdajaaGreatDoor
