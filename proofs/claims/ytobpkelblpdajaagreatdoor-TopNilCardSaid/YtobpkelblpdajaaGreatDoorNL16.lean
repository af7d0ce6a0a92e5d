/- Walks: mk.Alien, mk.Built. -/
import Derived.Test.YtobpkelblpdajaaGreatDoorNL15
import Derived.WideMake
set_option linter.unusedVariables false
set_option linter.unusedSimpArgs false
set_option linter.unusedSectionVars false
namespace Go.Proofs.YtobpkelblpdajaaGreatDoor
open Go Go.RowKit
theorem alien_of {w w' : World} {t : TypeId} {x : Value} (h : alienT t = true) (hb : Below w.heap.size w w') : BuiltPost .alien w (.returned (.iface t x)) w' := ⟨_, rfl, ⟨t, x, rfl, h⟩, hb⟩
theorem run_mk (P : Program) (t : TypeId) (w : World) : (Instr.makeMap t none).run P w = .ok (.map (some w.heap.size)) (w.alloc (.map #[] 0)) := rfl
def mapW (w : World) : World := { w.alloc (.map #[] 0) with heap := (w.alloc (.map #[] 0)).heap.setIfInBounds w.heap.size (.map #[{ key := .string ⟨#[97]⟩, val := .int .i64 1, born := 0 }] (0 + 1)) }
theorem run_ins (w : World) : (Instr.mapUpdate 111 (.map (some w.heap.size)) (.string ⟨#[97]⟩) (.int .i64 1)).run Tryz.prog (w.alloc (.map #[] 0)) = .ok () (mapW w) :=
  run_mapUpdate_first _ _ 9 3 _ 0 _ _ Tryz.underlying111 Tryz.underlying9 (heap_alloc_new _ _)
theorem below_mapW (w : World) : Below w.heap.size w (mapW w) := by
  refine ⟨rfl, rfl, rfl, by unfold mapW; simp, fun k hk => ?_⟩
  unfold mapW
  simp only []
  rw [Array.getElem?_setIfInBounds_ne (by omega)]
  exact Below.heap_alloc w _ k hk
attribute [local go_sem] run_mk run_ins
set_option maxRecDepth 100000 in
set_option maxHeartbeats 1000000 in
theorem alien_any (n : Int) (w : World) : Calls Tryz.prog 10 #[.int .i64 n] w (BuiltPost .alien w) := by
  go_enter Tryz.func10, Tryz.ntmps10
  go_wp2
  all_goals first
    | (go_ret; exact alien_of rfl (Below.refl _ _))
    | (go_ret; exact alien_of rfl ((Below.refl _ _).alloc (Nat.le_refl _) _))
    | (go_ret; exact alien_of rfl (below_mapW _))
set_option maxRecDepth 100000 in
set_option maxHeartbeats 1000000 in
theorem built_other (k : Int) (b : Bool) (i : Int) (f : Nat) (t : ByteArray) (bs : List UInt8) (r : Int) (l : List Tm) (d : List (ByteArray × Tm)) (c : ByteArray) (v : Int) (hk : k ≠ 1 ∧ k ≠ 2 ∧ k ≠ 3 ∧ k ≠ 4 ∧ k ≠ 5 ∧ k ≠ 6 ∧ k ≠ 7 ∧ k ≠ 8 ∧ k ≠ 9 ∧ k ≠ 10 ∧ k ≠ 11) : BuiltC (.mk k b i f t bs r l d c v) := by
  rintro x w ⟨Ab, cb, Al, cl, Ad, cd, rfl, -, hi, ht, hbl, ⟨hbn, hbs⟩, hr0, hr1, hc, hv, ⟨hll, hl⟩, ⟨hdl, hd⟩⟩
  have HF : Hid (builtV (.mk k b i f t bs r l d c v) = .alien) := Lib.hid (by obtain ⟨h1, h2, h3, h4, h5, h6, h7, h8, h9, h10, h11⟩ := hk; simp [builtV, *])
  have kq := fun j (h : k ≠ j) => (beq_eq_false_iff_ne (a := k) (b := j)).2 h
  obtain ⟨h1, h2, h3, h4, h5, h6, h7, h8, h9, h10, h11⟩ := hk
  have g1 := kq _ h1
  have g2 := kq _ h2
  have g3 := kq _ h3
  have g4 := kq _ h4
  have g5 := kq _ h5
  have g6 := kq _ h6
  have g7 := kq _ h7
  have g8 := kq _ h8
  have g9 := kq _ h9
  have g10 := kq _ h10
  have g11 := kq _ h11
  clear h1 h2 h3 h4 h5 h6 h7 h8 h9 h10 h11 kq hbs hl hd
  have HA := Lib.hid (alien_any i)
  unfold termOf
  go_enter Tryz.func12, Tryz.ntmps12
  go_wp2_with fail
  refine (HA.out _).mono ?_
  rintro e w1 ⟨u, rfl, hu, hb1⟩
  go_wp2
  go_ret
  rw [HF.out]
  exact ⟨u, rfl, RdS.more (fun b hb => ⟨Nat.le_trans (by simp) hb.1, hb.2⟩) _ _ hu, ((Below.refl _ _).alloc (Nat.le_refl _) _).trans (hb1.mono (by simp))⟩
theorem built_any (x : Tm) : BuiltC x := by
  induction x using Tm.ind with
  | h k b i f t bs r l d c v ihl ihd =>
    by_cases h1 : k = 1
    · subst h1; exact built_1 b i f t bs r l d c v
    by_cases h2 : k = 2
    · subst h2; exact built_2 b i f t bs r l d c v
    by_cases h3 : k = 3
    · subst h3; exact built_3 b i f t bs r l d c v
    by_cases h4 : k = 4
    · subst h4; exact built_4 b i f t bs r l d c v
    by_cases h5 : k = 5
    · subst h5; exact built_5 b i f t bs r l d c v
    by_cases h6 : k = 6
    · subst h6; exact built_6 b i f t bs r l d c v
    by_cases h7 : k = 7
    · subst h7; exact built_7 b i f t bs r l d c v
    by_cases h8 : k = 8
    · subst h8; exact built_8 b i f t bs r l d c v ihl
    by_cases h9 : k = 9
    · subst h9; exact built_9 b i f t bs r l d c v ihd
    by_cases h10 : k = 10
    · subst h10; exact built_10 b i f t bs r l d c v ihd
    by_cases h11 : k = 11
    · subst h11; exact built_11 b i f t bs r l d c v
    exact built_other k b i f t bs r l d c v ⟨h1, h2, h3, h4, h5, h6, h7, h8, h9, h10, h11⟩
end Go.Proofs.YtobpkelblpdajaaGreatDoor
