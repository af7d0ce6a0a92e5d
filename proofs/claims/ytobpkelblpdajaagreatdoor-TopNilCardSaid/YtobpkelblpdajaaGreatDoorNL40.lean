/- Walk: the law of nil. -/
import Derived.Test.YtobpkelblpdajaaGreatDoorNL30
import Derived.Test.YtobpkelblpdajaaGreatDoorNL31
import Derived.Test.YtobpkelblpdajaaGreatDoorNL39
set_option linter.unusedVariables false
set_option linter.unusedSimpArgs false
set_option linter.unusedSectionVars false
namespace Go.Proofs.YtobpkelblpdajaaGreatDoor
open Go Go.RowKit
theorem at_new {w : World} {o : Obj} {k : Nat} (h : k = w.heap.size) : (w.alloc o).heap[k]? = some o := by subst h; exact heap_alloc_new _ _
theorem same_no {a b : V} (h : (checkV a).2 ≠ 0) : sameV a b = false := by unfold sameV; simp [h]
theorem same_nil : sameV .nil .nil = true := by
  have : checkV .nil = (0, 0) := checkV_yes rfl
  unfold sameV
  rw [this]
  simp [ordV, kindV, ordI]
theorem check_badOf (k : Bool) : (checkV (badOf k)).2 ≠ 0 := by
  rw [checkV_no (by rw [part_bad]), part_bad]
  cases k <;> decide
theorem all13 (x : Value) (k : Nat) (h : k < 13) : (#[x, x, x, x, x, x, x, x, x, x, x, x, x] : Array Value)[k]? = some x := by
  match k, h with
  | 0, _ => rfl
  | 1, _ => rfl
  | 2, _ => rfl
  | 3, _ => rfl
  | 4, _ => rfl
  | 5, _ => rfl
  | 6, _ => rfl
  | 7, _ => rfl
  | 8, _ => rfl
  | 9, _ => rfl
  | 10, _ => rfl
  | 11, _ => rfl
  | 12, _ => rfl
theorem cells_one {v : Value} {t : TypeId} {y : Value} (h : v = .nilIface ∨ v = .iface t y) : v.cells = #[v] := by
  rcases h with rfl | rfl <;> rfl
theorem face_cells {v : Value} (h : v = .nilIface ∨ ∃ t y, v = .iface t y) : v.cells = #[v] := by
  rcases h with rfl | ⟨t, y, rfl⟩ <;> rfl
theorem rd_nilT (W : World) (S : Nat → Prop) : RdTS W S (tmK 1 [] [] ⟨#[]⟩ 0) nilC := rd_tmC (by constructor <;> decide) (by constructor <;> decide) (by decide) ⟨by decide, .inl rfl⟩ ⟨by decide, .inl rfl⟩
theorem bad_u {W : World} {S : Nat → Prop} : RdS W S (badOf true) (.iface 32 (.pointer none)) := rfl
set_option maxRecDepth 100000 in
set_option maxHeartbeats 8000000 in
theorem law_ng (T : Tm) (n : Int) (xs : List Value) (w : World) (hx : RdT w w.heap.size T xs) (hg : (checkV (builtV (recT T))).2 = 0) : Calls Tryz.prog 3 #[termOf xs, .int .i64 n, .bool true] w (BoolPost true w) := by
  obtain ⟨x0, x1, x2, x3, x4, x5, x6, x7, x8, x9, x10, rfl, h1c⟩ := hx.eleven
  have HAl := Lib.hid (fun (W : World) => alien_any n W)
  have HCk : Hid (∀ (y : List Value) (W : World), RdT W W.heap.size (recT T) y → Calls Tryz.prog 11 #[termOf y] W (fun e w' => e = .returned (.tuple #[.int .i64 (checkV (builtV (recT T))).1, .int .i64 (checkV (builtV (recT T))).2]) ∧ Below W.heap.size W w')) := Lib.hid (fun y W h => rcheck_any (recT T) y W h)
  have HB := Lib.hid (fun (W : World) (h : RdT W W.heap.size T [x0, x1, x2, x3, x4, x5, x6, x7, x8, x9, x10]) => built_any T _ W h)
  have HZ := Lib.hid (bad_check T true hg)
  generalize checkV (builtV (recT T)) = ck at *
  have hq : ((ck.2 : Int) != 0) = false := by rw [hg]; rfl
  clear hg
  have HX := Lib.hid hx
  clear hx
  have o0 := fun (W : World) (a : Addr) (m : Mode) => run_store Tryz.prog W a x0 m (h1c x0 (by simp))
  have o1 := fun (W : World) (a : Addr) (m : Mode) => run_store Tryz.prog W a x1 m (h1c x1 (by simp))
  have o2 := fun (W : World) (a : Addr) (m : Mode) => run_store Tryz.prog W a x2 m (h1c x2 (by simp))
  have o3 := fun (W : World) (a : Addr) (m : Mode) => run_store Tryz.prog W a x3 m (h1c x3 (by simp))
  have o4 := fun (W : World) (a : Addr) (m : Mode) => run_store Tryz.prog W a x4 m (h1c x4 (by simp))
  have o5 := fun (W : World) (a : Addr) (m : Mode) => run_store Tryz.prog W a x5 m (h1c x5 (by simp))
  have o6 := fun (W : World) (a : Addr) (m : Mode) => run_store Tryz.prog W a x6 m (h1c x6 (by simp))
  have o7 := fun (W : World) (a : Addr) (m : Mode) => run_store Tryz.prog W a x7 m (h1c x7 (by simp))
  have o8 := fun (W : World) (a : Addr) (m : Mode) => run_store Tryz.prog W a x8 m (h1c x8 (by simp))
  have o9 := fun (W : World) (a : Addr) (m : Mode) => run_store Tryz.prog W a x9 m (h1c x9 (by simp))
  have o10 := fun (W : World) (a : Addr) (m : Mode) => run_store Tryz.prog W a x10 m (h1c x10 (by simp))
  have o11 := fun (W : World) (a : Addr) (m : Mode) (x : Nat) => run_store Tryz.prog W a (.float .f64 x) m rfl
  clear h1c
  unfold termOf
  go_enter Tryz.func3, Tryz.ntmps3
  go_wp2_with fail
  refine (HAl.out _).mono ?_
  rintro e w1 ⟨u, rfl, hu, hb1⟩
  have hz1 : w.heap.size < w1.heap.size := by have := hb1.size; simp at this; omega
  have HW1 : Hid (Below w.heap.size w w1) := Lib.hid (((Below.refl _ _).alloc (Nat.le_refl _) _).trans (hb1.mono (by simp)))
  have c0 : w1.cell? ⟨w.heap.size, 0, none⟩ = some x0 := (hb1.cell (p := ⟨w.heap.size, 0, none⟩) (by simp)).trans (by simp [go_sem])
  have c1 : w1.cell? ⟨w.heap.size, 1, none⟩ = some x1 := (hb1.cell (p := ⟨w.heap.size, 1, none⟩) (by simp)).trans (by simp [go_sem])
  have c2 : w1.cell? ⟨w.heap.size, 2, none⟩ = some x2 := (hb1.cell (p := ⟨w.heap.size, 2, none⟩) (by simp)).trans (by simp [go_sem])
  have c3 : w1.cell? ⟨w.heap.size, 3, none⟩ = some x3 := (hb1.cell (p := ⟨w.heap.size, 3, none⟩) (by simp)).trans (by simp [go_sem])
  have c4 : w1.cell? ⟨w.heap.size, 4, none⟩ = some x4 := (hb1.cell (p := ⟨w.heap.size, 4, none⟩) (by simp)).trans (by simp [go_sem])
  have c5 : w1.cell? ⟨w.heap.size, 5, none⟩ = some x5 := (hb1.cell (p := ⟨w.heap.size, 5, none⟩) (by simp)).trans (by simp [go_sem])
  have c6 : w1.cell? ⟨w.heap.size, 6, none⟩ = some x6 := (hb1.cell (p := ⟨w.heap.size, 6, none⟩) (by simp)).trans (by simp [go_sem])
  have c7 : w1.cell? ⟨w.heap.size, 7, none⟩ = some x7 := (hb1.cell (p := ⟨w.heap.size, 7, none⟩) (by simp)).trans (by simp [go_sem])
  have c8 : w1.cell? ⟨w.heap.size, 8, none⟩ = some x8 := (hb1.cell (p := ⟨w.heap.size, 8, none⟩) (by simp)).trans (by simp [go_sem])
  have c9 : w1.cell? ⟨w.heap.size, 9, none⟩ = some x9 := (hb1.cell (p := ⟨w.heap.size, 9, none⟩) (by simp)).trans (by simp [go_sem])
  have c10 : w1.cell? ⟨w.heap.size, 10, none⟩ = some x10 := (hb1.cell (p := ⟨w.heap.size, 10, none⟩) (by simp)).trans (by simp [go_sem])
  clear hu hb1
  go_wp2_with fail
  have hT : Trees (((((w1.alloc (.cells #[.string ⟨#[97]⟩, .int .i64 1, .bool false, .int .i64 0, .float .f64 0, .string ⟨#[]⟩, .slice none 0 0, .int .u64 0, .slice none 0 0, .slice none 0 0, .string ⟨#[]⟩, .int .i64 0] 34)).alloc (.cells #[.int .i64 9, .bool false, .int .i64 0, .float .f64 0, .string ⟨#[]⟩, .slice none 0 0, .int .u64 0, .slice none 0 0, .slice (some ⟨w1.heap.size, 0, none⟩) 1 1, .string ⟨#[]⟩, .int .i64 0] 29)).alloc (.cells #[x0, x1, x2, x3, x4, x5, x6, x7, x8, x9, x10, .int .i64 9, .bool false, .int .i64 0, .float .f64 0, .string ⟨#[]⟩, .slice none 0 0, .int .u64 0, .slice none 0 0, .slice (some ⟨w1.heap.size, 0, none⟩) 1 1, .string ⟨#[]⟩, .int .i64 0] 29)).alloc (.cells #[.int .i64 8, .bool false, .int .i64 0, .float .f64 0, .string ⟨#[]⟩, .slice none 0 0, .int .u64 0, .slice (some ⟨w1.heap.size + 1 + 1, 0, none⟩) 2 2, .slice none 0 0, .string ⟨#[]⟩, .int .i64 0] 29)).alloc (.cells #[.string ⟨#[97]⟩, .int .i64 8, .bool false, .int .i64 0, .float .f64 0, .string ⟨#[]⟩, .slice none 0 0, .int .u64 0, .slice (some ⟨w1.heap.size + 1 + 1, 0, none⟩) 2 2, .slice none 0 0, .string ⟨#[]⟩, .int .i64 0] 34)) w1.heap.size [x0, x1, x2, x3, x4, x5, x6, x7, x8, x9, x10] := by
    constructor
    · rw [heap_alloc_old _ _ (by simp; omega), heap_alloc_old _ _ (by simp; omega), heap_alloc_old _ _ (by simp; omega), heap_alloc_old _ _ (by simp)]; exact at_new rfl
    · rw [heap_alloc_old _ _ (by simp), heap_alloc_old _ _ (by simp)]
      exact at_new (by simp)
    · exact at_new (by simp)
  have hb5 : Below w.heap.size w (((((w1.alloc (.cells #[.string ⟨#[97]⟩, .int .i64 1, .bool false, .int .i64 0, .float .f64 0, .string ⟨#[]⟩, .slice none 0 0, .int .u64 0, .slice none 0 0, .slice none 0 0, .string ⟨#[]⟩, .int .i64 0] 34)).alloc (.cells #[.int .i64 9, .bool false, .int .i64 0, .float .f64 0, .string ⟨#[]⟩, .slice none 0 0, .int .u64 0, .slice none 0 0, .slice (some ⟨w1.heap.size, 0, none⟩) 1 1, .string ⟨#[]⟩, .int .i64 0] 29)).alloc (.cells #[x0, x1, x2, x3, x4, x5, x6, x7, x8, x9, x10, .int .i64 9, .bool false, .int .i64 0, .float .f64 0, .string ⟨#[]⟩, .slice none 0 0, .int .u64 0, .slice none 0 0, .slice (some ⟨w1.heap.size, 0, none⟩) 1 1, .string ⟨#[]⟩, .int .i64 0] 29)).alloc (.cells #[.int .i64 8, .bool false, .int .i64 0, .float .f64 0, .string ⟨#[]⟩, .slice none 0 0, .int .u64 0, .slice (some ⟨w1.heap.size + 1 + 1, 0, none⟩) 2 2, .slice none 0 0, .string ⟨#[]⟩, .int .i64 0] 29)).alloc (.cells #[.string ⟨#[97]⟩, .int .i64 8, .bool false, .int .i64 0, .float .f64 0, .string ⟨#[]⟩, .slice none 0 0, .int .u64 0, .slice (some ⟨w1.heap.size + 1 + 1, 0, none⟩) 2 2, .slice none 0 0, .string ⟨#[]⟩, .int .i64 0] 34)) := (((((HW1.out.alloc (by omega) _).alloc (by simp; omega) _).alloc (by simp; omega) _).alloc (by simp; omega) _).alloc (by simp; omega) _)
  have hb15 : Below w1.heap.size w1 (((((w1.alloc (.cells #[.string ⟨#[97]⟩, .int .i64 1, .bool false, .int .i64 0, .float .f64 0, .string ⟨#[]⟩, .slice none 0 0, .int .u64 0, .slice none 0 0, .slice none 0 0, .string ⟨#[]⟩, .int .i64 0] 34)).alloc (.cells #[.int .i64 9, .bool false, .int .i64 0, .float .f64 0, .string ⟨#[]⟩, .slice none 0 0, .int .u64 0, .slice none 0 0, .slice (some ⟨w1.heap.size, 0, none⟩) 1 1, .string ⟨#[]⟩, .int .i64 0] 29)).alloc (.cells #[x0, x1, x2, x3, x4, x5, x6, x7, x8, x9, x10, .int .i64 9, .bool false, .int .i64 0, .float .f64 0, .string ⟨#[]⟩, .slice none 0 0, .int .u64 0, .slice none 0 0, .slice (some ⟨w1.heap.size, 0, none⟩) 1 1, .string ⟨#[]⟩, .int .i64 0] 29)).alloc (.cells #[.int .i64 8, .bool false, .int .i64 0, .float .f64 0, .string ⟨#[]⟩, .slice none 0 0, .int .u64 0, .slice (some ⟨w1.heap.size + 1 + 1, 0, none⟩) 2 2, .slice none 0 0, .string ⟨#[]⟩, .int .i64 0] 29)).alloc (.cells #[.string ⟨#[97]⟩, .int .i64 8, .bool false, .int .i64 0, .float .f64 0, .string ⟨#[]⟩, .slice none 0 0, .int .u64 0, .slice (some ⟨w1.heap.size + 1 + 1, 0, none⟩) 2 2, .slice none 0 0, .string ⟨#[]⟩, .int .i64 0] 34)) := ((((((Below.refl _ _).alloc (Nat.le_refl _) _).alloc (by simp) _).alloc (by simp; omega) _).alloc (by simp; omega) _).alloc (by simp; omega) _)
  have HR := Lib.hid (rd_recT hT rfl (RdT.more hb5.size _ _ (RdT.below HX.out hb5)))
  clear hT
  refine (HCk.out _ _ HR.out).mono ?_
  rintro e w2 ⟨rfl, hb2⟩
  have HB2 : Hid (Below w.heap.size w w2) := Lib.hid (below_then hb5 (Nat.le_refl _) hb2)
  have hb12 := below_then hb15 (Nat.le_refl _) hb2
  have hz2 : w.heap.size < w2.heap.size := Nat.lt_of_lt_of_le hz1 hb12.size
  replace c0 : w2.cell? ⟨w.heap.size, 0, none⟩ = some x0 := (hb12.cell (p := ⟨w.heap.size, 0, none⟩) hz1).trans c0
  replace c1 : w2.cell? ⟨w.heap.size, 1, none⟩ = some x1 := (hb12.cell (p := ⟨w.heap.size, 1, none⟩) hz1).trans c1
  replace c2 : w2.cell? ⟨w.heap.size, 2, none⟩ = some x2 := (hb12.cell (p := ⟨w.heap.size, 2, none⟩) hz1).trans c2
  replace c3 : w2.cell? ⟨w.heap.size, 3, none⟩ = some x3 := (hb12.cell (p := ⟨w.heap.size, 3, none⟩) hz1).trans c3
  replace c4 : w2.cell? ⟨w.heap.size, 4, none⟩ = some x4 := (hb12.cell (p := ⟨w.heap.size, 4, none⟩) hz1).trans c4
  replace c5 : w2.cell? ⟨w.heap.size, 5, none⟩ = some x5 := (hb12.cell (p := ⟨w.heap.size, 5, none⟩) hz1).trans c5
  replace c6 : w2.cell? ⟨w.heap.size, 6, none⟩ = some x6 := (hb12.cell (p := ⟨w.heap.size, 6, none⟩) hz1).trans c6
  replace c7 : w2.cell? ⟨w.heap.size, 7, none⟩ = some x7 := (hb12.cell (p := ⟨w.heap.size, 7, none⟩) hz1).trans c7
  replace c8 : w2.cell? ⟨w.heap.size, 8, none⟩ = some x8 := (hb12.cell (p := ⟨w.heap.size, 8, none⟩) hz1).trans c8
  replace c9 : w2.cell? ⟨w.heap.size, 9, none⟩ = some x9 := (hb12.cell (p := ⟨w.heap.size, 9, none⟩) hz1).trans c9
  replace c10 : w2.cell? ⟨w.heap.size, 10, none⟩ = some x10 := (hb12.cell (p := ⟨w.heap.size, 10, none⟩) hz1).trans c10
  clear hb2 hb5 hb15 hb12 HR HCk HAl
  go_wp2_with fail
  refine (HB.out _ (RdT.more HB2.out.size _ _ (RdT.below HX.out HB2.out))).mono ?_
  rintro e w3 ⟨vb, rfl, hvb, hb3⟩
  have HB3 : Hid (Below w.heap.size w w3) := Lib.hid (below_then HB2.out (Nat.le_refl _) hb3)
  have kv := face_cells hvb.face
  unfold Value.cells at kv
  have HVB := Lib.hid (hvb.more (fun b h => h.2))
  clear hvb hb3 HB c0 o0 c1 o1 c2 o2 c3 o3 c4 o4 c5 o5 c6 o6 c7 o7 c8 o8 c9 o9 c10 o10 HX
  go_wp2_with fail
  have hb7 : Below w3.heap.size w3 ((w3.alloc (.cells #[.string ⟨#[97]⟩, .iface 32 (.pointer none)] 39)).alloc (.cells #[vb, .iface 41 (.slice (some ⟨w3.heap.size, 0, none⟩) 1 1)] 20)) := ((Below.refl _ _).alloc (Nat.le_refl _) _).alloc (by simp) _
  have HV : Hid (Rd ((w3.alloc (.cells #[.string ⟨#[97]⟩, .iface 32 (.pointer none)] 39)).alloc (.cells #[vb, .iface 41 (.slice (some ⟨w3.heap.size, 0, none⟩) 1 1)] 20)) ((w3.alloc (.cells #[.string ⟨#[97]⟩, .iface 32 (.pointer none)] 39)).alloc (.cells #[vb, .iface 41 (.slice (some ⟨w3.heap.size, 0, none⟩) 1 1)] 20)).heap.size (around (builtV T) (badOf true)) (.iface 43 (.slice (some ⟨w3.heap.size + 1, 0, none⟩) 2 2))) := Lib.hid (rd_around (bl := w3.heap.size + 1) (bd := w3.heap.size) (at_new (by simp)) (by rw [heap_alloc_old _ _ (by simp)]; exact at_new rfl) ⟨by simp, by simp; omega⟩ (Rd.more hb7.size _ _ (Rd.below HVB.out hb7)) bad_u)
  have HB7 : Hid (Below w.heap.size w ((w3.alloc (.cells #[.string ⟨#[97]⟩, .iface 32 (.pointer none)] 39)).alloc (.cells #[vb, .iface 41 (.slice (some ⟨w3.heap.size, 0, none⟩) 1 1)] 20))) := Lib.hid (HB3.out.trans (hb7.mono HB3.out.size))
  have hz7 : w3.heap.size + 1 < ((w3.alloc (.cells #[.string ⟨#[97]⟩, .iface 32 (.pointer none)] 39)).alloc (.cells #[vb, .iface 41 (.slice (some ⟨w3.heap.size, 0, none⟩) 1 1)] 20)).heap.size := by simp
  clear hb7 kv HVB HB3 HB2 HW1 hz1 hz2 o11
  generalize ((w3.alloc (.cells #[.string ⟨#[97]⟩, .iface 32 (.pointer none)] 39)).alloc (.cells #[vb, .iface 41 (.slice (some ⟨w3.heap.size, 0, none⟩) 1 1)] 20)) = wv at *
  have hz : (checkV (around (builtV T) (badOf true))).2 = 7 := HZ.out.1
  have hzr : (checkV (recA (around (builtV T) (badOf true)))).2 = 7 := HZ.out.2
  have hnz : (checkV (around (builtV T) (badOf true))).2 ≠ 0 := by rw [hz]; decide
  have hnzr : (checkV (recA (around (builtV T) (badOf true)))).2 ≠ 0 := by rw [hzr]; decide
  clear HZ
  have K13 : Hid (∀ W, Below wv.heap.size wv W → Calls Tryz.prog 13 #[(.iface 43 (.slice (some ⟨w3.heap.size + 1, 0, none⟩) 2 2))] W (fun e w' => e = .returned (.tuple #[.int .i64 (checkV (around (builtV T) (badOf true))).1, .int .i64 7]) ∧ Below W.heap.size W w')) := Lib.hid (fun W hW => by have := check_out _ (.iface 43 (.slice (some ⟨w3.heap.size + 1, 0, none⟩) 2 2)) W (Rd.more hW.size _ _ (HV.out.below hW)); unfold CheckPost at this; rw [hz] at this; exact this)
  have K14 : Hid (∀ W, Below wv.heap.size wv W → Calls Tryz.prog 14 #[(.iface 43 (.slice (some ⟨w3.heap.size + 1, 0, none⟩) 2 2))] W (fun e w' => e = .returned (.tuple #[.nilIface, .int .i64 7]) ∧ Below W.heap.size W w')) := Lib.hid (fun W hW => by have := copy_bad _ (.iface 43 (.slice (some ⟨w3.heap.size + 1, 0, none⟩) 2 2)) W (Rd.more hW.size _ _ (HV.out.below hW)) hnz; rw [hz] at this; exact this)
  have K15 : Hid (∀ W, Below wv.heap.size wv W → Calls Tryz.prog 15 #[.nilIface, (.iface 43 (.slice (some ⟨w3.heap.size + 1, 0, none⟩) 2 2))] W (fun e w' => e = .returned (.tuple #[.int .i64 0, .int .i64 7]) ∧ Below W.heap.size W w')) := Lib.hid (fun W hW => by have := order_bad _ (.iface 43 (.slice (some ⟨w3.heap.size + 1, 0, none⟩) 2 2)) W (Rd.more hW.size _ _ (HV.out.below hW)) hnz; rw [hz] at this; exact this)
  have K16 : Hid (∀ W, Below wv.heap.size wv W → Calls Tryz.prog 16 #[(.iface 43 (.slice (some ⟨w3.heap.size + 1, 0, none⟩) 2 2))] W (fun e w' => e = .returned (.tuple #[.string ⟨#[]⟩, .int .i64 7]) ∧ Below W.heap.size W w')) := Lib.hid (fun W hW => by have := print_bad _ (.iface 43 (.slice (some ⟨w3.heap.size + 1, 0, none⟩) 2 2)) W (Rd.more hW.size _ _ (HV.out.below hW)) hnz; rw [hz] at this; exact this)
  have K17 : Hid (∀ W, Below wv.heap.size wv W → Calls Tryz.prog 17 #[(.iface 43 (.slice (some ⟨w3.heap.size + 1, 0, none⟩) 2 2))] W (fun e w' => e = .returned (.tuple #[.slice none 0 0, .int .i64 7]) ∧ Below W.heap.size W w')) := Lib.hid (fun W hW => by have := enc_bad _ (.iface 43 (.slice (some ⟨w3.heap.size + 1, 0, none⟩) 2 2)) W (Rd.more hW.size _ _ (HV.out.below hW)) hnz; rw [hz] at this; exact this)
  have K18 : Hid (∀ W, Below wv.heap.size wv W → Calls Tryz.prog 18 #[(.iface 43 (.slice (some ⟨w3.heap.size + 1, 0, none⟩) 2 2))] W (fun e w' => e = .returned (.tuple #[.string ⟨#[]⟩, .int .i64 7]) ∧ Below W.heap.size W w')) := Lib.hid (fun W hW => by have := key_bad _ (.iface 43 (.slice (some ⟨w3.heap.size + 1, 0, none⟩) 2 2)) W (Rd.more hW.size _ _ (HV.out.below hW)) hnz; rw [hz] at this; exact this)
  have K19 : Hid (∀ (p : Value) W, Below wv.heap.size wv W → Calls Tryz.prog 19 #[p, .iface 9 (.string ⟨#[97]⟩), (.iface 43 (.slice (some ⟨w3.heap.size + 1, 0, none⟩) 2 2))] W (fun e w' => e = .returned (.tuple #[.nilIface, .bool false, .int .i64 7]) ∧ Below W.heap.size W w')) := Lib.hid (fun p W hW => by have := mput_bad p _ (.iface 43 (.slice (some ⟨w3.heap.size + 1, 0, none⟩) 2 2)) W (Rd.more hW.size _ _ (HV.out.below hW)) hnz; rw [hz] at this; exact this)
  have K20 : Hid (∀ W, Below wv.heap.size wv W → Calls Tryz.prog 20 #[(.iface 43 (.slice (some ⟨w3.heap.size + 1, 0, none⟩) 2 2)), .slice none 0 0] W (fun e w' => e = .returned (.tuple #[.nilIface, .int .i64 7]) ∧ Below W.heap.size W w')) := Lib.hid (fun W hW => by have := get_bad _ (.iface 43 (.slice (some ⟨w3.heap.size + 1, 0, none⟩) 2 2)) W (.slice none 0 0) (Rd.more hW.size _ _ (HV.out.below hW)) hnz; rw [hz] at this; exact this)
  have K21 : Hid (∀ W, Below wv.heap.size wv W → Calls Tryz.prog 21 #[.nilIface, (.iface 43 (.slice (some ⟨w3.heap.size + 1, 0, none⟩) 2 2))] W (fun e w' => e = .returned (.tuple #[.slice none 0 0, .int .i64 7]) ∧ Below W.heap.size W w')) := Lib.hid (fun W hW => by have := diff_bad _ (.iface 43 (.slice (some ⟨w3.heap.size + 1, 0, none⟩) 2 2)) W (Rd.more hW.size _ _ (HV.out.below hW)) hnz; rw [hz] at this; exact this)
  have K22 : Hid (∀ W, Below wv.heap.size wv W → Calls Tryz.prog 22 #[(.iface 43 (.slice (some ⟨w3.heap.size + 1, 0, none⟩) 2 2)), typA] W (fun e w' => e = .returned (.tuple #[.bool false, .int .i64 0, .int .i64 7]) ∧ Below W.heap.size W w')) := Lib.hid (fun W hW => by have := is_bad _ (.iface 43 (.slice (some ⟨w3.heap.size + 1, 0, none⟩) 2 2)) W (Rd.more hW.size _ _ (HV.out.below hW)) hnz; rw [hz] at this; exact this)
  have K23 : Hid (∀ W, Below wv.heap.size wv W → Calls Tryz.prog 23 #[expA, (.iface 43 (.slice (some ⟨w3.heap.size + 1, 0, none⟩) 2 2))] W (fun e w' => e = .returned (.tuple #[.nilIface, .int .i64 0, .int .i64 7]) ∧ Below W.heap.size W w')) := Lib.hid (fun W hW => by have := Eval_bad _ (.iface 43 (.slice (some ⟨w3.heap.size + 1, 0, none⟩) 2 2)) W (Rd.more hW.size _ _ (HV.out.below hW)) hnz; rw [hz] at this; exact this)
  have KS : Hid (∀ W, Below wv.heap.size wv W → Calls Tryz.prog 28 #[(.iface 43 (.slice (some ⟨w3.heap.size + 1, 0, none⟩) 2 2)), (.iface 43 (.slice (some ⟨w3.heap.size + 1, 0, none⟩) 2 2))] W (fun e w' => e = .returned (.bool false) ∧ Below W.heap.size W w')) := Lib.hid (fun W hW => by have := same_any _ _ (.iface 43 (.slice (some ⟨w3.heap.size + 1, 0, none⟩) 2 2)) (.iface 43 (.slice (some ⟨w3.heap.size + 1, 0, none⟩) 2 2)) W (Rd.more hW.size _ _ (HV.out.below hW)) (Rd.more hW.size _ _ (HV.out.below hW)); unfold BoolPost at this; rw [same_no hnz] at this; exact this)
  have KU : Hid (∀ W, Below wv.heap.size wv W → Calls Tryz.prog 28 #[.iface 32 (.pointer none), .nilIface] W (fun e w' => e = .returned (.bool false) ∧ Below W.heap.size W w')) := Lib.hid (fun W hW => by have := same_any (badOf true) .nil (.iface 32 (.pointer none)) .nilIface W bad_u rfl; unfold BoolPost at this; rw [same_no (by exact check_badOf true)] at this; exact this)
  have KN : Hid (∀ W, Calls Tryz.prog 28 #[.nilIface, .nilIface] W (fun e w' => e = .returned (.bool true) ∧ Below W.heap.size W w')) := Lib.hid (fun W => by have := same_any .nil .nil .nilIface .nilIface W rfl rfl; unfold BoolPost at this; rw [same_nil] at this; exact this)
  have hB : Below wv.heap.size wv wv := Below.refl _ _
  unfold typA at K22
  unfold expA at K23
  clear hnz
  refine (K13.out _ hB).mono ?_
  rintro e w13 ⟨rfl, hb⟩
  replace hB := below_then hB (Nat.le_refl _) hb
  clear hb
  go_wp2_with fail
  refine (K14.out _ hB).mono ?_
  rintro e w14 ⟨rfl, hb⟩
  replace hB := below_then hB (Nat.le_refl _) hb
  clear hb
  go_wp2_with fail
  refine (K15.out _ hB).mono ?_
  rintro e w15 ⟨rfl, hb⟩
  replace hB := below_then hB (Nat.le_refl _) hb
  clear hb
  go_wp2_with fail
  refine (K16.out _ hB).mono ?_
  rintro e w16 ⟨rfl, hb⟩
  replace hB := below_then hB (Nat.le_refl _) hb
  clear hb
  go_wp2_with fail
  refine (K17.out _ hB).mono ?_
  rintro e w17 ⟨rfl, hb⟩
  replace hB := below_then hB (Nat.le_refl _) hb
  clear hb
  go_wp2_with fail
  refine (K18.out _ hB).mono ?_
  rintro e w18 ⟨rfl, hb⟩
  replace hB := below_then hB (Nat.le_refl _) hb
  clear hb
  go_wp2_with fail
  replace hB := hB.alloc hB.size (.cells #[.map none] 56)
  refine (K19.out _ _ hB).mono ?_
  rintro e w19 ⟨rfl, hb⟩
  replace hB := below_then hB (Nat.le_refl _) hb
  clear hb
  go_wp2_with fail
  refine (K20.out _ hB).mono ?_
  rintro e w20 ⟨rfl, hb⟩
  replace hB := below_then hB (Nat.le_refl _) hb
  clear hb
  go_wp2_with fail
  refine (K21.out _ hB).mono ?_
  rintro e w21 ⟨rfl, hb⟩
  replace hB := below_then hB (Nat.le_refl _) hb
  clear hb
  go_wp2_with fail
  refine (K22.out _ hB).mono ?_
  rintro e w22 ⟨rfl, hb⟩
  replace hB := below_then hB (Nat.le_refl _) hb
  clear hb
  go_wp2_with fail
  refine (K23.out _ hB).mono ?_
  rintro e w23 ⟨rfl, hb⟩
  replace hB := below_then hB (Nat.le_refl _) hb
  clear hb
  go_wp2_with fail
  clear K13 K14 K15 K16 K17 K18 K19 K20 K21 K22 K23
  have hbr : Below w23.heap.size w23 ((w23.alloc (.cells #[.string ⟨#[97]⟩, (.iface 43 (.slice (some ⟨w3.heap.size + 1, 0, none⟩) 2 2))] 39)).alloc (.cells #[.string ⟨#[97]⟩, .int .i64 1, .slice (some ⟨w23.heap.size, 0, none⟩) 1 1] 75)) := ((Below.refl _ _).alloc (Nat.le_refl _) _).alloc (by simp) _
  replace hB := below_then hB (Nat.le_refl _) hbr
  have HRc : Hid (Rd ((w23.alloc (.cells #[.string ⟨#[97]⟩, (.iface 43 (.slice (some ⟨w3.heap.size + 1, 0, none⟩) 2 2))] 39)).alloc (.cells #[.string ⟨#[97]⟩, .int .i64 1, .slice (some ⟨w23.heap.size, 0, none⟩) 1 1] 75)) ((w23.alloc (.cells #[.string ⟨#[97]⟩, (.iface 43 (.slice (some ⟨w3.heap.size + 1, 0, none⟩) 2 2))] 39)).alloc (.cells #[.string ⟨#[97]⟩, .int .i64 1, .slice (some ⟨w23.heap.size, 0, none⟩) 1 1] 75)).heap.size (recA (around (builtV T) (badOf true))) (.iface 32 (.pointer (some ⟨w23.heap.size + 1, 0, none⟩)))) := Lib.hid (rd_rec (br := w23.heap.size + 1) (bf := w23.heap.size) (at_new (by simp)) (by rw [heap_alloc_old _ _ (by simp)]; exact at_new rfl) ⟨by simp, by simp; omega⟩ (Rd.more hB.size _ _ (HV.out.below hB)))
  clear hbr
  generalize ((w23.alloc (.cells #[.string ⟨#[97]⟩, (.iface 43 (.slice (some ⟨w3.heap.size + 1, 0, none⟩) 2 2))] 39)).alloc (.cells #[.string ⟨#[97]⟩, .int .i64 1, .slice (some ⟨w23.heap.size, 0, none⟩) 1 1] 75)) = wr at *
  have KA : Hid (∀ b m W, Below wr.heap.size wr W → HeapAt W b m → Calls Tryz.prog 25 #[.pointer (some ⟨b, 0, none⟩), .pointer (some ⟨w23.heap.size + 1, 0, none⟩)] W (fun e w' => e = .returned (.tuple #[.int .u64 0, .int .i64 7]) ∧ Below W.heap.size W w')) := Lib.hid (fun b m W hW hh => by have := add_bad b m ⟨w23.heap.size + 1, 0, none⟩ _ W hh (Rd.more hW.size _ _ (HRc.out.below hW)) hnzr; rw [hzr] at this; exact this)
  have KC : Hid (∀ (q : Value) W, Below wr.heap.size wr W → Calls Tryz.prog 26 #[q, .pointer (some ⟨w23.heap.size + 1, 0, none⟩), .int .i64 1] W (fun e w' => e = .returned (.tuple #[.pointer none, .int .i64 7]) ∧ Below W.heap.size W w')) := Lib.hid (fun q W hW => by have := Conv_bad q ⟨w23.heap.size + 1, 0, none⟩ _ W (Rd.more hW.size _ _ (HRc.out.below hW)) hnzr; rw [hzr] at this; exact this)
  have KZ : Hid (∀ b m W, HeapAt W b m → Calls Tryz.prog 25 #[.pointer (some ⟨b, 0, none⟩), .pointer none] W (fun e w' => e = .returned (.tuple #[.int .u64 0, .int .i64 7]) ∧ Below W.heap.size W w')) := Lib.hid (fun b m W hh => add_nil b m W hh)
  have KW := Lib.hid (fun (W : World) => hnew W)
  have KL := Lib.hid (fun (b m : Nat) (W : World) (h : HeapAt W b m) => hlen b m W h)
  have KO := Lib.hid (fun (W : World) => Holds_nothing W)
  have KP := Lib.hid (fun (W : World) => Holds_hollow W)
  have hBr : Below wr.heap.size wr wr := Below.refl _ _
  clear hnzr hzr hz
  refine (KW.out _).mono ?_
  rintro e w24 ⟨b, m, rfl, hh, hb⟩
  replace hBr := below_then hBr (Nat.le_refl _) hb
  clear hb
  go_wp2_with fail
  refine (KA.out b m _ hBr hh).mono ?_
  rintro e w25 ⟨rfl, hb⟩
  replace hBr := below_then hBr (Nat.le_refl _) hb
  replace hh := hh.below hb
  clear hb
  go_wp2_with fail
  have hbx : Below w25.heap.size w25 (w25.alloc (.cells #[.slice none 0 0, .map none] 86)) := (Below.refl _ _).alloc (Nat.le_refl _) _
  replace hBr := below_then hBr (Nat.le_refl _) hbx
  replace hh := hh.below hbx
  clear hbx
  refine (KC.out _ _ hBr).mono ?_
  rintro e w26 ⟨rfl, hb⟩
  replace hBr := below_then hBr (Nat.le_refl _) hb
  replace hh := hh.below hb
  clear hb
  go_wp2_with fail
  refine (KZ.out b m _ hh).mono ?_
  rintro e w27 ⟨rfl, hb⟩
  replace hBr := below_then hBr (Nat.le_refl _) hb
  replace hh := hh.below hb
  clear hb
  go_wp2_with fail
  have hb28 : Below w27.heap.size w27 (w27.alloc (.cells #[.int .i64 7, .int .i64 7, .int .i64 7, .int .i64 7, .int .i64 7, .int .i64 7, .int .i64 7, .int .i64 7, .int .i64 7, .int .i64 7, .int .i64 7, .int .i64 7, .int .i64 7] 31)) := (Below.refl _ _).alloc (Nat.le_refl _) _
  replace hBr := below_then hBr (Nat.le_refl _) hb28
  replace hh := hh.below hb28
  have HCl : Hid (∀ k : Nat, k < 13 → (w27.alloc (.cells #[.int .i64 7, .int .i64 7, .int .i64 7, .int .i64 7, .int .i64 7, .int .i64 7, .int .i64 7, .int .i64 7, .int .i64 7, .int .i64 7, .int .i64 7, .int .i64 7, .int .i64 7] 31)).cell? ⟨w27.heap.size, k, none⟩ = some (.int .i64 7)) := Lib.hid (fun k hk => by rw [Lib.cell_of_heap (at_new (w := w27) rfl)]; exact all13 _ k hk)
  clear hb28
  obtain ⟨wl, hwl⟩ : ∃ wl : World, (w27.alloc (.cells #[.int .i64 7, .int .i64 7, .int .i64 7, .int .i64 7, .int .i64 7, .int .i64 7, .int .i64 7, .int .i64 7, .int .i64 7, .int .i64 7, .int .i64 7, .int .i64 7, .int .i64 7] 31)) = wl := ⟨_, rfl⟩
  rw [hwl] at hBr hh HCl ⊢
  have HWl := Lib.hid hwl
  clear hwl
  go_loop [49] (fun i => ∃ k : Nat, k ≤ 13 ∧ i = .int .i64 k) (fun i => 13 - (intOf i).toNat)
  case atStart => exact ⟨0, by omega, rfl⟩
  case round =>
    obtain ⟨k, hk, rfl⟩ := hrel
    by_cases hlt : k < 13
    · have hc := HCl.out k hlt
      go_wp2_with fail
      go_round
      case rel => exact ⟨k + 1, by omega, by go_num⟩
      case measure => simp [intOf]; omega
    · go_wp2_with fail
      refine (KL.out b m _ hh).mono ?_
      rintro e w29 ⟨rfl, rfl⟩
      have hB2 := below_then hB (Nat.le_refl _) hBr
      go_wp2_with fail
      refine (KS.out _ hB2).mono ?_
      rintro e w30 ⟨rfl, hb⟩
      replace hB2 := below_then hB2 (Nat.le_refl _) hb
      clear hb
      go_wp2_with fail
      refine (KU.out _ hB2).mono ?_
      rintro e w31 ⟨rfl, hb⟩
      replace hB2 := below_then hB2 (Nat.le_refl _) hb
      clear hb
      go_wp2_with fail
      refine (KN.out _).mono ?_
      rintro e w32 ⟨rfl, hb⟩
      replace hB2 := below_then hB2 (Nat.le_refl _) hb
      clear hb
      go_wp2_with fail
      refine (KP.out _).mono ?_
      rintro e w33 ⟨rfl, rfl⟩
      go_wp2_with fail
      refine (KO.out _).mono ?_
      rintro e w34 ⟨rfl, rfl⟩
      go_wp2_with fail
      go_ret
      exact ⟨rfl, below_then HB7.out (Nat.le_refl _) hB2⟩
set_option maxRecDepth 100000 in
set_option maxHeartbeats 8000000 in
theorem law_ag (T : Tm) (n : Int) (xs : List Value) (w : World) (hx : RdT w w.heap.size T xs) (hg : (checkV (builtV (recT T))).2 = 0) : Calls Tryz.prog 3 #[termOf xs, .int .i64 n, .bool false] w (BoolPost true w) := by
  obtain ⟨x0, x1, x2, x3, x4, x5, x6, x7, x8, x9, x10, rfl, h1c⟩ := hx.eleven
  have HAl := Lib.hid (fun (W : World) => alien_any n W)
  have HCk : Hid (∀ (y : List Value) (W : World), RdT W W.heap.size (recT T) y → Calls Tryz.prog 11 #[termOf y] W (fun e w' => e = .returned (.tuple #[.int .i64 (checkV (builtV (recT T))).1, .int .i64 (checkV (builtV (recT T))).2]) ∧ Below W.heap.size W w')) := Lib.hid (fun y W h => rcheck_any (recT T) y W h)
  have HB := Lib.hid (fun (W : World) (h : RdT W W.heap.size T [x0, x1, x2, x3, x4, x5, x6, x7, x8, x9, x10]) => built_any T _ W h)
  have HZ := Lib.hid (bad_check T false hg)
  generalize checkV (builtV (recT T)) = ck at *
  have hq : ((ck.2 : Int) != 0) = false := by rw [hg]; rfl
  clear hg
  have HX := Lib.hid hx
  clear hx
  have o0 := fun (W : World) (a : Addr) (m : Mode) => run_store Tryz.prog W a x0 m (h1c x0 (by simp))
  have o1 := fun (W : World) (a : Addr) (m : Mode) => run_store Tryz.prog W a x1 m (h1c x1 (by simp))
  have o2 := fun (W : World) (a : Addr) (m : Mode) => run_store Tryz.prog W a x2 m (h1c x2 (by simp))
  have o3 := fun (W : World) (a : Addr) (m : Mode) => run_store Tryz.prog W a x3 m (h1c x3 (by simp))
  have o4 := fun (W : World) (a : Addr) (m : Mode) => run_store Tryz.prog W a x4 m (h1c x4 (by simp))
  have o5 := fun (W : World) (a : Addr) (m : Mode) => run_store Tryz.prog W a x5 m (h1c x5 (by simp))
  have o6 := fun (W : World) (a : Addr) (m : Mode) => run_store Tryz.prog W a x6 m (h1c x6 (by simp))
  have o7 := fun (W : World) (a : Addr) (m : Mode) => run_store Tryz.prog W a x7 m (h1c x7 (by simp))
  have o8 := fun (W : World) (a : Addr) (m : Mode) => run_store Tryz.prog W a x8 m (h1c x8 (by simp))
  have o9 := fun (W : World) (a : Addr) (m : Mode) => run_store Tryz.prog W a x9 m (h1c x9 (by simp))
  have o10 := fun (W : World) (a : Addr) (m : Mode) => run_store Tryz.prog W a x10 m (h1c x10 (by simp))
  have o11 := fun (W : World) (a : Addr) (m : Mode) (x : Nat) => run_store Tryz.prog W a (.float .f64 x) m rfl
  clear h1c
  unfold termOf
  go_enter Tryz.func3, Tryz.ntmps3
  go_wp2_with fail
  refine (HAl.out _).mono ?_
  rintro e w1 ⟨u, rfl, hu, hb1⟩
  have hz1 : w.heap.size < w1.heap.size := by have := hb1.size; simp at this; omega
  have HW1 : Hid (Below w.heap.size w w1) := Lib.hid (((Below.refl _ _).alloc (Nat.le_refl _) _).trans (hb1.mono (by simp)))
  have c0 : w1.cell? ⟨w.heap.size, 0, none⟩ = some x0 := (hb1.cell (p := ⟨w.heap.size, 0, none⟩) (by simp)).trans (by simp [go_sem])
  have c1 : w1.cell? ⟨w.heap.size, 1, none⟩ = some x1 := (hb1.cell (p := ⟨w.heap.size, 1, none⟩) (by simp)).trans (by simp [go_sem])
  have c2 : w1.cell? ⟨w.heap.size, 2, none⟩ = some x2 := (hb1.cell (p := ⟨w.heap.size, 2, none⟩) (by simp)).trans (by simp [go_sem])
  have c3 : w1.cell? ⟨w.heap.size, 3, none⟩ = some x3 := (hb1.cell (p := ⟨w.heap.size, 3, none⟩) (by simp)).trans (by simp [go_sem])
  have c4 : w1.cell? ⟨w.heap.size, 4, none⟩ = some x4 := (hb1.cell (p := ⟨w.heap.size, 4, none⟩) (by simp)).trans (by simp [go_sem])
  have c5 : w1.cell? ⟨w.heap.size, 5, none⟩ = some x5 := (hb1.cell (p := ⟨w.heap.size, 5, none⟩) (by simp)).trans (by simp [go_sem])
  have c6 : w1.cell? ⟨w.heap.size, 6, none⟩ = some x6 := (hb1.cell (p := ⟨w.heap.size, 6, none⟩) (by simp)).trans (by simp [go_sem])
  have c7 : w1.cell? ⟨w.heap.size, 7, none⟩ = some x7 := (hb1.cell (p := ⟨w.heap.size, 7, none⟩) (by simp)).trans (by simp [go_sem])
  have c8 : w1.cell? ⟨w.heap.size, 8, none⟩ = some x8 := (hb1.cell (p := ⟨w.heap.size, 8, none⟩) (by simp)).trans (by simp [go_sem])
  have c9 : w1.cell? ⟨w.heap.size, 9, none⟩ = some x9 := (hb1.cell (p := ⟨w.heap.size, 9, none⟩) (by simp)).trans (by simp [go_sem])
  have c10 : w1.cell? ⟨w.heap.size, 10, none⟩ = some x10 := (hb1.cell (p := ⟨w.heap.size, 10, none⟩) (by simp)).trans (by simp [go_sem])
  obtain ⟨ty, y, rfl, hal⟩ := hu
  have HU : Hid (∀ (W : World) (S : Nat → Prop), RdS W S (badOf false) (.iface ty y)) := Lib.hid (fun W S => ⟨ty, y, rfl, hal⟩)
  clear hal hb1
  go_wp2_with fail
  have hT : Trees (((((w1.alloc (.cells #[.string ⟨#[97]⟩, .int .i64 1, .bool false, .int .i64 0, .float .f64 0, .string ⟨#[]⟩, .slice none 0 0, .int .u64 0, .slice none 0 0, .slice none 0 0, .string ⟨#[]⟩, .int .i64 0] 34)).alloc (.cells #[.int .i64 9, .bool false, .int .i64 0, .float .f64 0, .string ⟨#[]⟩, .slice none 0 0, .int .u64 0, .slice none 0 0, .slice (some ⟨w1.heap.size, 0, none⟩) 1 1, .string ⟨#[]⟩, .int .i64 0] 29)).alloc (.cells #[x0, x1, x2, x3, x4, x5, x6, x7, x8, x9, x10, .int .i64 9, .bool false, .int .i64 0, .float .f64 0, .string ⟨#[]⟩, .slice none 0 0, .int .u64 0, .slice none 0 0, .slice (some ⟨w1.heap.size, 0, none⟩) 1 1, .string ⟨#[]⟩, .int .i64 0] 29)).alloc (.cells #[.int .i64 8, .bool false, .int .i64 0, .float .f64 0, .string ⟨#[]⟩, .slice none 0 0, .int .u64 0, .slice (some ⟨w1.heap.size + 1 + 1, 0, none⟩) 2 2, .slice none 0 0, .string ⟨#[]⟩, .int .i64 0] 29)).alloc (.cells #[.string ⟨#[97]⟩, .int .i64 8, .bool false, .int .i64 0, .float .f64 0, .string ⟨#[]⟩, .slice none 0 0, .int .u64 0, .slice (some ⟨w1.heap.size + 1 + 1, 0, none⟩) 2 2, .slice none 0 0, .string ⟨#[]⟩, .int .i64 0] 34)) w1.heap.size [x0, x1, x2, x3, x4, x5, x6, x7, x8, x9, x10] := by
    constructor
    · rw [heap_alloc_old _ _ (by simp; omega), heap_alloc_old _ _ (by simp; omega), heap_alloc_old _ _ (by simp; omega), heap_alloc_old _ _ (by simp)]; exact at_new rfl
    · rw [heap_alloc_old _ _ (by simp), heap_alloc_old _ _ (by simp)]
      exact at_new (by simp)
    · exact at_new (by simp)
  have hb5 : Below w.heap.size w (((((w1.alloc (.cells #[.string ⟨#[97]⟩, .int .i64 1, .bool false, .int .i64 0, .float .f64 0, .string ⟨#[]⟩, .slice none 0 0, .int .u64 0, .slice none 0 0, .slice none 0 0, .string ⟨#[]⟩, .int .i64 0] 34)).alloc (.cells #[.int .i64 9, .bool false, .int .i64 0, .float .f64 0, .string ⟨#[]⟩, .slice none 0 0, .int .u64 0, .slice none 0 0, .slice (some ⟨w1.heap.size, 0, none⟩) 1 1, .string ⟨#[]⟩, .int .i64 0] 29)).alloc (.cells #[x0, x1, x2, x3, x4, x5, x6, x7, x8, x9, x10, .int .i64 9, .bool false, .int .i64 0, .float .f64 0, .string ⟨#[]⟩, .slice none 0 0, .int .u64 0, .slice none 0 0, .slice (some ⟨w1.heap.size, 0, none⟩) 1 1, .string ⟨#[]⟩, .int .i64 0] 29)).alloc (.cells #[.int .i64 8, .bool false, .int .i64 0, .float .f64 0, .string ⟨#[]⟩, .slice none 0 0, .int .u64 0, .slice (some ⟨w1.heap.size + 1 + 1, 0, none⟩) 2 2, .slice none 0 0, .string ⟨#[]⟩, .int .i64 0] 29)).alloc (.cells #[.string ⟨#[97]⟩, .int .i64 8, .bool false, .int .i64 0, .float .f64 0, .string ⟨#[]⟩, .slice none 0 0, .int .u64 0, .slice (some ⟨w1.heap.size + 1 + 1, 0, none⟩) 2 2, .slice none 0 0, .string ⟨#[]⟩, .int .i64 0] 34)) := (((((HW1.out.alloc (by omega) _).alloc (by simp; omega) _).alloc (by simp; omega) _).alloc (by simp; omega) _).alloc (by simp; omega) _)
  have hb15 : Below w1.heap.size w1 (((((w1.alloc (.cells #[.string ⟨#[97]⟩, .int .i64 1, .bool false, .int .i64 0, .float .f64 0, .string ⟨#[]⟩, .slice none 0 0, .int .u64 0, .slice none 0 0, .slice none 0 0, .string ⟨#[]⟩, .int .i64 0] 34)).alloc (.cells #[.int .i64 9, .bool false, .int .i64 0, .float .f64 0, .string ⟨#[]⟩, .slice none 0 0, .int .u64 0, .slice none 0 0, .slice (some ⟨w1.heap.size, 0, none⟩) 1 1, .string ⟨#[]⟩, .int .i64 0] 29)).alloc (.cells #[x0, x1, x2, x3, x4, x5, x6, x7, x8, x9, x10, .int .i64 9, .bool false, .int .i64 0, .float .f64 0, .string ⟨#[]⟩, .slice none 0 0, .int .u64 0, .slice none 0 0, .slice (some ⟨w1.heap.size, 0, none⟩) 1 1, .string ⟨#[]⟩, .int .i64 0] 29)).alloc (.cells #[.int .i64 8, .bool false, .int .i64 0, .float .f64 0, .string ⟨#[]⟩, .slice none 0 0, .int .u64 0, .slice (some ⟨w1.heap.size + 1 + 1, 0, none⟩) 2 2, .slice none 0 0, .string ⟨#[]⟩, .int .i64 0] 29)).alloc (.cells #[.string ⟨#[97]⟩, .int .i64 8, .bool false, .int .i64 0, .float .f64 0, .string ⟨#[]⟩, .slice none 0 0, .int .u64 0, .slice (some ⟨w1.heap.size + 1 + 1, 0, none⟩) 2 2, .slice none 0 0, .string ⟨#[]⟩, .int .i64 0] 34)) := ((((((Below.refl _ _).alloc (Nat.le_refl _) _).alloc (by simp) _).alloc (by simp; omega) _).alloc (by simp; omega) _).alloc (by simp; omega) _)
  have HR := Lib.hid (rd_recT hT rfl (RdT.more hb5.size _ _ (RdT.below HX.out hb5)))
  clear hT
  refine (HCk.out _ _ HR.out).mono ?_
  rintro e w2 ⟨rfl, hb2⟩
  have HB2 : Hid (Below w.heap.size w w2) := Lib.hid (below_then hb5 (Nat.le_refl _) hb2)
  have hb12 := below_then hb15 (Nat.le_refl _) hb2
  have hz2 : w.heap.size < w2.heap.size := Nat.lt_of_lt_of_le hz1 hb12.size
  replace c0 : w2.cell? ⟨w.heap.size, 0, none⟩ = some x0 := (hb12.cell (p := ⟨w.heap.size, 0, none⟩) hz1).trans c0
  replace c1 : w2.cell? ⟨w.heap.size, 1, none⟩ = some x1 := (hb12.cell (p := ⟨w.heap.size, 1, none⟩) hz1).trans c1
  replace c2 : w2.cell? ⟨w.heap.size, 2, none⟩ = some x2 := (hb12.cell (p := ⟨w.heap.size, 2, none⟩) hz1).trans c2
  replace c3 : w2.cell? ⟨w.heap.size, 3, none⟩ = some x3 := (hb12.cell (p := ⟨w.heap.size, 3, none⟩) hz1).trans c3
  replace c4 : w2.cell? ⟨w.heap.size, 4, none⟩ = some x4 := (hb12.cell (p := ⟨w.heap.size, 4, none⟩) hz1).trans c4
  replace c5 : w2.cell? ⟨w.heap.size, 5, none⟩ = some x5 := (hb12.cell (p := ⟨w.heap.size, 5, none⟩) hz1).trans c5
  replace c6 : w2.cell? ⟨w.heap.size, 6, none⟩ = some x6 := (hb12.cell (p := ⟨w.heap.size, 6, none⟩) hz1).trans c6
  replace c7 : w2.cell? ⟨w.heap.size, 7, none⟩ = some x7 := (hb12.cell (p := ⟨w.heap.size, 7, none⟩) hz1).trans c7
  replace c8 : w2.cell? ⟨w.heap.size, 8, none⟩ = some x8 := (hb12.cell (p := ⟨w.heap.size, 8, none⟩) hz1).trans c8
  replace c9 : w2.cell? ⟨w.heap.size, 9, none⟩ = some x9 := (hb12.cell (p := ⟨w.heap.size, 9, none⟩) hz1).trans c9
  replace c10 : w2.cell? ⟨w.heap.size, 10, none⟩ = some x10 := (hb12.cell (p := ⟨w.heap.size, 10, none⟩) hz1).trans c10
  clear hb2 hb5 hb15 hb12 HR HCk HAl
  go_wp2_with fail
  refine (HB.out _ (RdT.more HB2.out.size _ _ (RdT.below HX.out HB2.out))).mono ?_
  rintro e w3 ⟨vb, rfl, hvb, hb3⟩
  have HB3 : Hid (Below w.heap.size w w3) := Lib.hid (below_then HB2.out (Nat.le_refl _) hb3)
  have kv := face_cells hvb.face
  unfold Value.cells at kv
  have HVB := Lib.hid (hvb.more (fun b h => h.2))
  clear hvb hb3 HB c0 o0 c1 o1 c2 o2 c3 o3 c4 o4 c5 o5 c6 o6 c7 o7 c8 o8 c9 o9 c10 o10 HX
  go_wp2_with fail
  have hb7 : Below w3.heap.size w3 ((w3.alloc (.cells #[.string ⟨#[97]⟩, .iface ty y] 39)).alloc (.cells #[vb, .iface 41 (.slice (some ⟨w3.heap.size, 0, none⟩) 1 1)] 20)) := ((Below.refl _ _).alloc (Nat.le_refl _) _).alloc (by simp) _
  have HV : Hid (Rd ((w3.alloc (.cells #[.string ⟨#[97]⟩, .iface ty y] 39)).alloc (.cells #[vb, .iface 41 (.slice (some ⟨w3.heap.size, 0, none⟩) 1 1)] 20)) ((w3.alloc (.cells #[.string ⟨#[97]⟩, .iface ty y] 39)).alloc (.cells #[vb, .iface 41 (.slice (some ⟨w3.heap.size, 0, none⟩) 1 1)] 20)).heap.size (around (builtV T) (badOf false)) (.iface 43 (.slice (some ⟨w3.heap.size + 1, 0, none⟩) 2 2))) := Lib.hid (rd_around (bl := w3.heap.size + 1) (bd := w3.heap.size) (at_new (by simp)) (by rw [heap_alloc_old _ _ (by simp)]; exact at_new rfl) ⟨by simp, by simp; omega⟩ (Rd.more hb7.size _ _ (Rd.below HVB.out hb7)) (HU.out _ _))
  have HB7 : Hid (Below w.heap.size w ((w3.alloc (.cells #[.string ⟨#[97]⟩, .iface ty y] 39)).alloc (.cells #[vb, .iface 41 (.slice (some ⟨w3.heap.size, 0, none⟩) 1 1)] 20))) := Lib.hid (HB3.out.trans (hb7.mono HB3.out.size))
  have hz7 : w3.heap.size + 1 < ((w3.alloc (.cells #[.string ⟨#[97]⟩, .iface ty y] 39)).alloc (.cells #[vb, .iface 41 (.slice (some ⟨w3.heap.size, 0, none⟩) 1 1)] 20)).heap.size := by simp
  clear hb7 kv HVB HB3 HB2 HW1 hz1 hz2 o11
  generalize ((w3.alloc (.cells #[.string ⟨#[97]⟩, .iface ty y] 39)).alloc (.cells #[vb, .iface 41 (.slice (some ⟨w3.heap.size, 0, none⟩) 1 1)] 20)) = wv at *
  have hz : (checkV (around (builtV T) (badOf false))).2 = 6 := HZ.out.1
  have hzr : (checkV (recA (around (builtV T) (badOf false)))).2 = 6 := HZ.out.2
  have hnz : (checkV (around (builtV T) (badOf false))).2 ≠ 0 := by rw [hz]; decide
  have hnzr : (checkV (recA (around (builtV T) (badOf false)))).2 ≠ 0 := by rw [hzr]; decide
  clear HZ
  have K13 : Hid (∀ W, Below wv.heap.size wv W → Calls Tryz.prog 13 #[(.iface 43 (.slice (some ⟨w3.heap.size + 1, 0, none⟩) 2 2))] W (fun e w' => e = .returned (.tuple #[.int .i64 (checkV (around (builtV T) (badOf false))).1, .int .i64 6]) ∧ Below W.heap.size W w')) := Lib.hid (fun W hW => by have := check_out _ (.iface 43 (.slice (some ⟨w3.heap.size + 1, 0, none⟩) 2 2)) W (Rd.more hW.size _ _ (HV.out.below hW)); unfold CheckPost at this; rw [hz] at this; exact this)
  have K14 : Hid (∀ W, Below wv.heap.size wv W → Calls Tryz.prog 14 #[(.iface 43 (.slice (some ⟨w3.heap.size + 1, 0, none⟩) 2 2))] W (fun e w' => e = .returned (.tuple #[.nilIface, .int .i64 6]) ∧ Below W.heap.size W w')) := Lib.hid (fun W hW => by have := copy_bad _ (.iface 43 (.slice (some ⟨w3.heap.size + 1, 0, none⟩) 2 2)) W (Rd.more hW.size _ _ (HV.out.below hW)) hnz; rw [hz] at this; exact this)
  have K15 : Hid (∀ W, Below wv.heap.size wv W → Calls Tryz.prog 15 #[.nilIface, (.iface 43 (.slice (some ⟨w3.heap.size + 1, 0, none⟩) 2 2))] W (fun e w' => e = .returned (.tuple #[.int .i64 0, .int .i64 6]) ∧ Below W.heap.size W w')) := Lib.hid (fun W hW => by have := order_bad _ (.iface 43 (.slice (some ⟨w3.heap.size + 1, 0, none⟩) 2 2)) W (Rd.more hW.size _ _ (HV.out.below hW)) hnz; rw [hz] at this; exact this)
  have K16 : Hid (∀ W, Below wv.heap.size wv W → Calls Tryz.prog 16 #[(.iface 43 (.slice (some ⟨w3.heap.size + 1, 0, none⟩) 2 2))] W (fun e w' => e = .returned (.tuple #[.string ⟨#[]⟩, .int .i64 6]) ∧ Below W.heap.size W w')) := Lib.hid (fun W hW => by have := print_bad _ (.iface 43 (.slice (some ⟨w3.heap.size + 1, 0, none⟩) 2 2)) W (Rd.more hW.size _ _ (HV.out.below hW)) hnz; rw [hz] at this; exact this)
  have K17 : Hid (∀ W, Below wv.heap.size wv W → Calls Tryz.prog 17 #[(.iface 43 (.slice (some ⟨w3.heap.size + 1, 0, none⟩) 2 2))] W (fun e w' => e = .returned (.tuple #[.slice none 0 0, .int .i64 6]) ∧ Below W.heap.size W w')) := Lib.hid (fun W hW => by have := enc_bad _ (.iface 43 (.slice (some ⟨w3.heap.size + 1, 0, none⟩) 2 2)) W (Rd.more hW.size _ _ (HV.out.below hW)) hnz; rw [hz] at this; exact this)
  have K18 : Hid (∀ W, Below wv.heap.size wv W → Calls Tryz.prog 18 #[(.iface 43 (.slice (some ⟨w3.heap.size + 1, 0, none⟩) 2 2))] W (fun e w' => e = .returned (.tuple #[.string ⟨#[]⟩, .int .i64 6]) ∧ Below W.heap.size W w')) := Lib.hid (fun W hW => by have := key_bad _ (.iface 43 (.slice (some ⟨w3.heap.size + 1, 0, none⟩) 2 2)) W (Rd.more hW.size _ _ (HV.out.below hW)) hnz; rw [hz] at this; exact this)
  have K19 : Hid (∀ (p : Value) W, Below wv.heap.size wv W → Calls Tryz.prog 19 #[p, .iface 9 (.string ⟨#[97]⟩), (.iface 43 (.slice (some ⟨w3.heap.size + 1, 0, none⟩) 2 2))] W (fun e w' => e = .returned (.tuple #[.nilIface, .bool false, .int .i64 6]) ∧ Below W.heap.size W w')) := Lib.hid (fun p W hW => by have := mput_bad p _ (.iface 43 (.slice (some ⟨w3.heap.size + 1, 0, none⟩) 2 2)) W (Rd.more hW.size _ _ (HV.out.below hW)) hnz; rw [hz] at this; exact this)
  have K20 : Hid (∀ W, Below wv.heap.size wv W → Calls Tryz.prog 20 #[(.iface 43 (.slice (some ⟨w3.heap.size + 1, 0, none⟩) 2 2)), .slice none 0 0] W (fun e w' => e = .returned (.tuple #[.nilIface, .int .i64 6]) ∧ Below W.heap.size W w')) := Lib.hid (fun W hW => by have := get_bad _ (.iface 43 (.slice (some ⟨w3.heap.size + 1, 0, none⟩) 2 2)) W (.slice none 0 0) (Rd.more hW.size _ _ (HV.out.below hW)) hnz; rw [hz] at this; exact this)
  have K21 : Hid (∀ W, Below wv.heap.size wv W → Calls Tryz.prog 21 #[.nilIface, (.iface 43 (.slice (some ⟨w3.heap.size + 1, 0, none⟩) 2 2))] W (fun e w' => e = .returned (.tuple #[.slice none 0 0, .int .i64 6]) ∧ Below W.heap.size W w')) := Lib.hid (fun W hW => by have := diff_bad _ (.iface 43 (.slice (some ⟨w3.heap.size + 1, 0, none⟩) 2 2)) W (Rd.more hW.size _ _ (HV.out.below hW)) hnz; rw [hz] at this; exact this)
  have K22 : Hid (∀ W, Below wv.heap.size wv W → Calls Tryz.prog 22 #[(.iface 43 (.slice (some ⟨w3.heap.size + 1, 0, none⟩) 2 2)), typA] W (fun e w' => e = .returned (.tuple #[.bool false, .int .i64 0, .int .i64 6]) ∧ Below W.heap.size W w')) := Lib.hid (fun W hW => by have := is_bad _ (.iface 43 (.slice (some ⟨w3.heap.size + 1, 0, none⟩) 2 2)) W (Rd.more hW.size _ _ (HV.out.below hW)) hnz; rw [hz] at this; exact this)
  have K23 : Hid (∀ W, Below wv.heap.size wv W → Calls Tryz.prog 23 #[expA, (.iface 43 (.slice (some ⟨w3.heap.size + 1, 0, none⟩) 2 2))] W (fun e w' => e = .returned (.tuple #[.nilIface, .int .i64 0, .int .i64 6]) ∧ Below W.heap.size W w')) := Lib.hid (fun W hW => by have := Eval_bad _ (.iface 43 (.slice (some ⟨w3.heap.size + 1, 0, none⟩) 2 2)) W (Rd.more hW.size _ _ (HV.out.below hW)) hnz; rw [hz] at this; exact this)
  have KS : Hid (∀ W, Below wv.heap.size wv W → Calls Tryz.prog 28 #[(.iface 43 (.slice (some ⟨w3.heap.size + 1, 0, none⟩) 2 2)), (.iface 43 (.slice (some ⟨w3.heap.size + 1, 0, none⟩) 2 2))] W (fun e w' => e = .returned (.bool false) ∧ Below W.heap.size W w')) := Lib.hid (fun W hW => by have := same_any _ _ (.iface 43 (.slice (some ⟨w3.heap.size + 1, 0, none⟩) 2 2)) (.iface 43 (.slice (some ⟨w3.heap.size + 1, 0, none⟩) 2 2)) W (Rd.more hW.size _ _ (HV.out.below hW)) (Rd.more hW.size _ _ (HV.out.below hW)); unfold BoolPost at this; rw [same_no hnz] at this; exact this)
  have KU : Hid (∀ W, Below wv.heap.size wv W → Calls Tryz.prog 28 #[.iface ty y, .nilIface] W (fun e w' => e = .returned (.bool false) ∧ Below W.heap.size W w')) := Lib.hid (fun W hW => by have := same_any (badOf false) .nil (.iface ty y) .nilIface W (HU.out _ _) rfl; unfold BoolPost at this; rw [same_no (by exact check_badOf false)] at this; exact this)
  have KN : Hid (∀ W, Calls Tryz.prog 28 #[.nilIface, .nilIface] W (fun e w' => e = .returned (.bool true) ∧ Below W.heap.size W w')) := Lib.hid (fun W => by have := same_any .nil .nil .nilIface .nilIface W rfl rfl; unfold BoolPost at this; rw [same_nil] at this; exact this)
  have hB : Below wv.heap.size wv wv := Below.refl _ _
  unfold typA at K22
  unfold expA at K23
  clear hnz HU
  refine (K13.out _ hB).mono ?_
  rintro e w13 ⟨rfl, hb⟩
  replace hB := below_then hB (Nat.le_refl _) hb
  clear hb
  go_wp2_with fail
  refine (K14.out _ hB).mono ?_
  rintro e w14 ⟨rfl, hb⟩
  replace hB := below_then hB (Nat.le_refl _) hb
  clear hb
  go_wp2_with fail
  refine (K15.out _ hB).mono ?_
  rintro e w15 ⟨rfl, hb⟩
  replace hB := below_then hB (Nat.le_refl _) hb
  clear hb
  go_wp2_with fail
  refine (K16.out _ hB).mono ?_
  rintro e w16 ⟨rfl, hb⟩
  replace hB := below_then hB (Nat.le_refl _) hb
  clear hb
  go_wp2_with fail
  refine (K17.out _ hB).mono ?_
  rintro e w17 ⟨rfl, hb⟩
  replace hB := below_then hB (Nat.le_refl _) hb
  clear hb
  go_wp2_with fail
  refine (K18.out _ hB).mono ?_
  rintro e w18 ⟨rfl, hb⟩
  replace hB := below_then hB (Nat.le_refl _) hb
  clear hb
  go_wp2_with fail
  replace hB := hB.alloc hB.size (.cells #[.map none] 56)
  refine (K19.out _ _ hB).mono ?_
  rintro e w19 ⟨rfl, hb⟩
  replace hB := below_then hB (Nat.le_refl _) hb
  clear hb
  go_wp2_with fail
  refine (K20.out _ hB).mono ?_
  rintro e w20 ⟨rfl, hb⟩
  replace hB := below_then hB (Nat.le_refl _) hb
  clear hb
  go_wp2_with fail
  refine (K21.out _ hB).mono ?_
  rintro e w21 ⟨rfl, hb⟩
  replace hB := below_then hB (Nat.le_refl _) hb
  clear hb
  go_wp2_with fail
  refine (K22.out _ hB).mono ?_
  rintro e w22 ⟨rfl, hb⟩
  replace hB := below_then hB (Nat.le_refl _) hb
  clear hb
  go_wp2_with fail
  refine (K23.out _ hB).mono ?_
  rintro e w23 ⟨rfl, hb⟩
  replace hB := below_then hB (Nat.le_refl _) hb
  clear hb
  go_wp2_with fail
  clear K13 K14 K15 K16 K17 K18 K19 K20 K21 K22 K23
  have hbr : Below w23.heap.size w23 ((w23.alloc (.cells #[.string ⟨#[97]⟩, (.iface 43 (.slice (some ⟨w3.heap.size + 1, 0, none⟩) 2 2))] 39)).alloc (.cells #[.string ⟨#[97]⟩, .int .i64 1, .slice (some ⟨w23.heap.size, 0, none⟩) 1 1] 75)) := ((Below.refl _ _).alloc (Nat.le_refl _) _).alloc (by simp) _
  replace hB := below_then hB (Nat.le_refl _) hbr
  have HRc : Hid (Rd ((w23.alloc (.cells #[.string ⟨#[97]⟩, (.iface 43 (.slice (some ⟨w3.heap.size + 1, 0, none⟩) 2 2))] 39)).alloc (.cells #[.string ⟨#[97]⟩, .int .i64 1, .slice (some ⟨w23.heap.size, 0, none⟩) 1 1] 75)) ((w23.alloc (.cells #[.string ⟨#[97]⟩, (.iface 43 (.slice (some ⟨w3.heap.size + 1, 0, none⟩) 2 2))] 39)).alloc (.cells #[.string ⟨#[97]⟩, .int .i64 1, .slice (some ⟨w23.heap.size, 0, none⟩) 1 1] 75)).heap.size (recA (around (builtV T) (badOf false))) (.iface 32 (.pointer (some ⟨w23.heap.size + 1, 0, none⟩)))) := Lib.hid (rd_rec (br := w23.heap.size + 1) (bf := w23.heap.size) (at_new (by simp)) (by rw [heap_alloc_old _ _ (by simp)]; exact at_new rfl) ⟨by simp, by simp; omega⟩ (Rd.more hB.size _ _ (HV.out.below hB)))
  clear hbr
  generalize ((w23.alloc (.cells #[.string ⟨#[97]⟩, (.iface 43 (.slice (some ⟨w3.heap.size + 1, 0, none⟩) 2 2))] 39)).alloc (.cells #[.string ⟨#[97]⟩, .int .i64 1, .slice (some ⟨w23.heap.size, 0, none⟩) 1 1] 75)) = wr at *
  have KA : Hid (∀ b m W, Below wr.heap.size wr W → HeapAt W b m → Calls Tryz.prog 25 #[.pointer (some ⟨b, 0, none⟩), .pointer (some ⟨w23.heap.size + 1, 0, none⟩)] W (fun e w' => e = .returned (.tuple #[.int .u64 0, .int .i64 6]) ∧ Below W.heap.size W w')) := Lib.hid (fun b m W hW hh => by have := add_bad b m ⟨w23.heap.size + 1, 0, none⟩ _ W hh (Rd.more hW.size _ _ (HRc.out.below hW)) hnzr; rw [hzr] at this; exact this)
  have KC : Hid (∀ (q : Value) W, Below wr.heap.size wr W → Calls Tryz.prog 26 #[q, .pointer (some ⟨w23.heap.size + 1, 0, none⟩), .int .i64 1] W (fun e w' => e = .returned (.tuple #[.pointer none, .int .i64 6]) ∧ Below W.heap.size W w')) := Lib.hid (fun q W hW => by have := Conv_bad q ⟨w23.heap.size + 1, 0, none⟩ _ W (Rd.more hW.size _ _ (HRc.out.below hW)) hnzr; rw [hzr] at this; exact this)
  have KZ : Hid (∀ b m W, HeapAt W b m → Calls Tryz.prog 25 #[.pointer (some ⟨b, 0, none⟩), .pointer none] W (fun e w' => e = .returned (.tuple #[.int .u64 0, .int .i64 7]) ∧ Below W.heap.size W w')) := Lib.hid (fun b m W hh => add_nil b m W hh)
  have KW := Lib.hid (fun (W : World) => hnew W)
  have KL := Lib.hid (fun (b m : Nat) (W : World) (h : HeapAt W b m) => hlen b m W h)
  have KO := Lib.hid (fun (W : World) => Holds_nothing W)
  have KP := Lib.hid (fun (W : World) => Holds_hollow W)
  have hBr : Below wr.heap.size wr wr := Below.refl _ _
  clear hnzr hzr hz
  refine (KW.out _).mono ?_
  rintro e w24 ⟨b, m, rfl, hh, hb⟩
  replace hBr := below_then hBr (Nat.le_refl _) hb
  clear hb
  go_wp2_with fail
  refine (KA.out b m _ hBr hh).mono ?_
  rintro e w25 ⟨rfl, hb⟩
  replace hBr := below_then hBr (Nat.le_refl _) hb
  replace hh := hh.below hb
  clear hb
  go_wp2_with fail
  have hbx : Below w25.heap.size w25 (w25.alloc (.cells #[.slice none 0 0, .map none] 86)) := (Below.refl _ _).alloc (Nat.le_refl _) _
  replace hBr := below_then hBr (Nat.le_refl _) hbx
  replace hh := hh.below hbx
  clear hbx
  refine (KC.out _ _ hBr).mono ?_
  rintro e w26 ⟨rfl, hb⟩
  replace hBr := below_then hBr (Nat.le_refl _) hb
  replace hh := hh.below hb
  clear hb
  go_wp2_with fail
  refine (KZ.out b m _ hh).mono ?_
  rintro e w27 ⟨rfl, hb⟩
  replace hBr := below_then hBr (Nat.le_refl _) hb
  replace hh := hh.below hb
  clear hb
  go_wp2_with fail
  have hb28 : Below w27.heap.size w27 (w27.alloc (.cells #[.int .i64 6, .int .i64 6, .int .i64 6, .int .i64 6, .int .i64 6, .int .i64 6, .int .i64 6, .int .i64 6, .int .i64 6, .int .i64 6, .int .i64 6, .int .i64 6, .int .i64 6] 31)) := (Below.refl _ _).alloc (Nat.le_refl _) _
  replace hBr := below_then hBr (Nat.le_refl _) hb28
  replace hh := hh.below hb28
  have HCl : Hid (∀ k : Nat, k < 13 → (w27.alloc (.cells #[.int .i64 6, .int .i64 6, .int .i64 6, .int .i64 6, .int .i64 6, .int .i64 6, .int .i64 6, .int .i64 6, .int .i64 6, .int .i64 6, .int .i64 6, .int .i64 6, .int .i64 6] 31)).cell? ⟨w27.heap.size, k, none⟩ = some (.int .i64 6)) := Lib.hid (fun k hk => by rw [Lib.cell_of_heap (at_new (w := w27) rfl)]; exact all13 _ k hk)
  clear hb28
  obtain ⟨wl, hwl⟩ : ∃ wl : World, (w27.alloc (.cells #[.int .i64 6, .int .i64 6, .int .i64 6, .int .i64 6, .int .i64 6, .int .i64 6, .int .i64 6, .int .i64 6, .int .i64 6, .int .i64 6, .int .i64 6, .int .i64 6, .int .i64 6] 31)) = wl := ⟨_, rfl⟩
  rw [hwl] at hBr hh HCl ⊢
  have HWl := Lib.hid hwl
  clear hwl
  go_loop [49] (fun i => ∃ k : Nat, k ≤ 13 ∧ i = .int .i64 k) (fun i => 13 - (intOf i).toNat)
  case atStart => exact ⟨0, by omega, rfl⟩
  case round =>
    obtain ⟨k, hk, rfl⟩ := hrel
    by_cases hlt : k < 13
    · have hc := HCl.out k hlt
      go_wp2_with fail
      go_round
      case rel => exact ⟨k + 1, by omega, by go_num⟩
      case measure => simp [intOf]; omega
    · go_wp2_with fail
      refine (KL.out b m _ hh).mono ?_
      rintro e w29 ⟨rfl, rfl⟩
      have hB2 := below_then hB (Nat.le_refl _) hBr
      go_wp2_with fail
      refine (KS.out _ hB2).mono ?_
      rintro e w30 ⟨rfl, hb⟩
      replace hB2 := below_then hB2 (Nat.le_refl _) hb
      clear hb
      go_wp2_with fail
      refine (KU.out _ hB2).mono ?_
      rintro e w31 ⟨rfl, hb⟩
      replace hB2 := below_then hB2 (Nat.le_refl _) hb
      clear hb
      go_wp2_with fail
      refine (KN.out _).mono ?_
      rintro e w32 ⟨rfl, hb⟩
      replace hB2 := below_then hB2 (Nat.le_refl _) hb
      clear hb
      go_wp2_with fail
      refine (KP.out _).mono ?_
      rintro e w33 ⟨rfl, rfl⟩
      go_wp2_with fail
      refine (KO.out _).mono ?_
      rintro e w34 ⟨rfl, rfl⟩
      go_wp2_with fail
      go_ret
      exact ⟨rfl, below_then HB7.out (Nat.le_refl _) hB2⟩
end Go.Proofs.YtobpkelblpdajaaGreatDoor
