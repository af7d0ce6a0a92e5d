/- Walks: mk.Plain; mk.Same of the leaves. -/
import Derived.Test.YtobpkelblpdajaaGreatDoorPR29
import Derived.Test.YtobpkelblpdajaaGreatDoorPR14
set_option linter.unusedVariables false
set_option linter.unusedSimpArgs false
set_option linter.unusedSectionVars false
namespace Go.Proofs.YtobpkelblpdajaaGreatDoor
open Go Go.RowKit
mutual
/- Whether two terms are the same value. -/
def sameT : Tm → Tm → Bool
  | .mk k b i f t bs r l d c v, .mk k' b' i' f' t' bs' r' l' d' c' v' =>
    if k ≠ k' then false
    else if k = 1 ∨ k = 11 then true
    else if k = 2 then b == b'
    else if k = 3 then decide (i = i')
    else if k = 4 then decide (f = f')
    else if k = 5 then t.toList == t'.toList
    else if k = 6 then decide (bs = bs')
    else if k = 7 then decide (r = r')
    else if k = 8 then sameTL l l'
    else if k = 9 then sameTD d d'
    else if k = 10 then (c.toList == c'.toList) && (decide (v = v') && sameTD d d')
    else false
def sameTL : List Tm → List Tm → Bool
  | [], [] => true
  | x :: r, y :: s => sameT x y && sameTL r s
  | _, _ => false
def sameTD : List (ByteArray × Tm) → List (ByteArray × Tm) → Bool
  | [], [] => true
  | (n, x) :: r, (m, y) :: s => (n.toList == m.toList) && sameT x y && sameTD r s
  | _, _ => false
end
def SameC (a b : Tm) : Prop := ∀ (x y : List Value) (w : World), RdT w w.heap.size a x → RdT w w.heap.size b y → Calls Tryz.prog 70 #[termOf x, termOf y] w (BoolPost (sameT a b) w)
section
variable (b : Bool) (i : Int) (f : Nat) (t : ByteArray) (bs : List UInt8) (r : Int) (l : List Tm) (d : List (ByteArray × Tm)) (c : ByteArray) (v : Int) (b' : Bool) (i' : Int) (f' : Nat) (t' : ByteArray) (bs' : List UInt8) (r' : Int) (l' : List Tm) (d' : List (ByteArray × Tm)) (c' : ByteArray) (v' : Int)
set_option maxRecDepth 100000 in
set_option maxHeartbeats 1000000 in
theorem same_ne (k k2 : Int) (h : k ≠ k2) : SameC (.mk k b i f t bs r l d c v) (.mk k2 b' i' f' t' bs' r' l' d' c' v') := by
  rintro x y w ⟨Ab, cb, Al, cl, Ad, cd, rfl, hk, hi, ht, hbl, ⟨hbn, hbs⟩, hr0, hr1, hc, hv, ⟨hll, hl⟩, ⟨hdl, hd⟩⟩ ⟨Ab', cb', Al', cl', Ad', cd', rfl, hk', hi', ht', hbl', ⟨hbn', hbs'⟩, hr0', hr1', hc', hv', ⟨hll', hl'⟩, ⟨hdl', hd'⟩⟩
  have hF : sameT (.mk k b i f t bs r l d c v) (.mk k2 b' i' f' t' bs' r' l' d' c' v') = false := by
    rw [sameT]; simp [h]
  rw [hF]
  clear hbs hl hd hbs' hl' hd' hF
  unfold termOf
  have hq : (k != k2) = true := by rw [bne_iff_ne]; exact h
  go_enter Tryz.func70, Tryz.ntmps70
  go_wp2
  go_ret
  exact ⟨rfl, ((Below.refl w.heap.size w).alloc (Nat.le_refl _) _).alloc (by simp) _⟩
set_option maxRecDepth 100000 in
set_option maxHeartbeats 1000000 in
theorem same_1 : SameC (.mk 1 b i f t bs r l d c v) (.mk 1 b' i' f' t' bs' r' l' d' c' v') := by
  rintro x y w ⟨Ab, cb, Al, cl, Ad, cd, rfl, hk, hi, ht, hbl, ⟨hbn, hbs⟩, hr0, hr1, hc, hv, ⟨hll, hl⟩, ⟨hdl, hd⟩⟩ ⟨Ab', cb', Al', cl', Ad', cd', rfl, hk', hi', ht', hbl', ⟨hbn', hbs'⟩, hr0', hr1', hc', hv', ⟨hll', hl'⟩, ⟨hdl', hd'⟩⟩
  have hF : sameT (.mk 1 b i f t bs r l d c v) (.mk 1 b' i' f' t' bs' r' l' d' c' v') = true := by
    rw [sameT]; simp
  rw [hF]
  clear hbs hl hd hbs' hl' hd' hF
  unfold termOf
  go_enter Tryz.func70, Tryz.ntmps70
  go_wp2
  go_ret
  exact ⟨rfl, ((Below.refl w.heap.size w).alloc (Nat.le_refl _) _).alloc (by simp) _⟩
set_option maxRecDepth 100000 in
set_option maxHeartbeats 1000000 in
theorem same_2 : SameC (.mk 2 b i f t bs r l d c v) (.mk 2 b' i' f' t' bs' r' l' d' c' v') := by
  rintro x y w ⟨Ab, cb, Al, cl, Ad, cd, rfl, hk, hi, ht, hbl, ⟨hbn, hbs⟩, hr0, hr1, hc, hv, ⟨hll, hl⟩, ⟨hdl, hd⟩⟩ ⟨Ab', cb', Al', cl', Ad', cd', rfl, hk', hi', ht', hbl', ⟨hbn', hbs'⟩, hr0', hr1', hc', hv', ⟨hll', hl'⟩, ⟨hdl', hd'⟩⟩
  have hF : sameT (.mk 2 b i f t bs r l d c v) (.mk 2 b' i' f' t' bs' r' l' d' c' v') = (b == b') := by
    rw [sameT]; simp
  rw [hF]
  clear hbs hl hd hbs' hl' hd' hF
  unfold termOf
  go_enter Tryz.func70, Tryz.ntmps70
  go_wp2
  go_ret
  exact ⟨rfl, ((Below.refl w.heap.size w).alloc (Nat.le_refl _) _).alloc (by simp) _⟩
set_option maxRecDepth 100000 in
set_option maxHeartbeats 1000000 in
theorem same_3 : SameC (.mk 3 b i f t bs r l d c v) (.mk 3 b' i' f' t' bs' r' l' d' c' v') := by
  rintro x y w ⟨Ab, cb, Al, cl, Ad, cd, rfl, hk, hi, ht, hbl, ⟨hbn, hbs⟩, hr0, hr1, hc, hv, ⟨hll, hl⟩, ⟨hdl, hd⟩⟩ ⟨Ab', cb', Al', cl', Ad', cd', rfl, hk', hi', ht', hbl', ⟨hbn', hbs'⟩, hr0', hr1', hc', hv', ⟨hll', hl'⟩, ⟨hdl', hd'⟩⟩
  have hF : sameT (.mk 3 b i f t bs r l d c v) (.mk 3 b' i' f' t' bs' r' l' d' c' v') = decide (i = i') := by
    rw [sameT]; simp
  rw [hF]
  clear hbs hl hd hbs' hl' hd' hF
  unfold termOf
  go_enter Tryz.func70, Tryz.ntmps70
  go_wp2
  go_ret
  exact ⟨rfl, ((Below.refl w.heap.size w).alloc (Nat.le_refl _) _).alloc (by simp) _⟩
set_option maxRecDepth 100000 in
set_option maxHeartbeats 1000000 in
theorem same_4 : SameC (.mk 4 b i f t bs r l d c v) (.mk 4 b' i' f' t' bs' r' l' d' c' v') := by
  rintro x y w ⟨Ab, cb, Al, cl, Ad, cd, rfl, hk, hi, ht, hbl, ⟨hbn, hbs⟩, hr0, hr1, hc, hv, ⟨hll, hl⟩, ⟨hdl, hd⟩⟩ ⟨Ab', cb', Al', cl', Ad', cd', rfl, hk', hi', ht', hbl', ⟨hbn', hbs'⟩, hr0', hr1', hc', hv', ⟨hll', hl'⟩, ⟨hdl', hd'⟩⟩
  have hF : sameT (.mk 4 b i f t bs r l d c v) (.mk 4 b' i' f' t' bs' r' l' d' c' v') = decide (f = f') := by
    rw [sameT]; simp
  rw [hF]
  clear hbs hl hd hbs' hl' hd' hF
  unfold termOf
  have k0 := fun (x : Nat) (w : World) => run_f64bits x w
  go_enter Tryz.func70, Tryz.ntmps70
  go_wp2
  refine wp_region_below_lit (by kernel_rfl) (by kernel_rfl) ?_
  repeat (refine WpC.step (fun K hK => ?_); go_simp; first | (refine hK _ ?_; clear hK K) | (apply Exists.intro; refine ⟨fun W hW => ?_, hK _ ?_⟩; (first | (intros; rfl) | (refine ⟨rfl, ?_⟩; rfl) | ((obtain ⟨hc, hf⟩ := bcellB hW; go_simp; rfl)) | ((go_simp; rfl))); clear hK K))
  refine WpC.nil ?_
  intro wq hwq
  go_wp2
  go_ret
  exact ⟨congrArg (fun x => Ending.returned (Value.bool x)) (show ((f : Int) == (f' : Int)) = decide (f = f') by rw [Bool.eq_iff_iff]; simp; omega), (((Below.refl w.heap.size w).alloc (Nat.le_refl _) _).alloc (by simp) _).trans (hwq.mono (by simp; omega))⟩
set_option maxRecDepth 100000 in
set_option maxHeartbeats 1000000 in
theorem same_5 : SameC (.mk 5 b i f t bs r l d c v) (.mk 5 b' i' f' t' bs' r' l' d' c' v') := by
  rintro x y w ⟨Ab, cb, Al, cl, Ad, cd, rfl, hk, hi, ht, hbl, ⟨hbn, hbs⟩, hr0, hr1, hc, hv, ⟨hll, hl⟩, ⟨hdl, hd⟩⟩ ⟨Ab', cb', Al', cl', Ad', cd', rfl, hk', hi', ht', hbl', ⟨hbn', hbs'⟩, hr0', hr1', hc', hv', ⟨hll', hl'⟩, ⟨hdl', hd'⟩⟩
  have hF : sameT (.mk 5 b i f t bs r l d c v) (.mk 5 b' i' f' t' bs' r' l' d' c' v') = (t.toList == t'.toList) := by
    rw [sameT]; simp
  rw [hF]
  clear hbs hl hd hbs' hl' hd' hF
  unfold termOf
  go_enter Tryz.func70, Tryz.ntmps70
  go_wp2
  go_ret
  exact ⟨rfl, ((Below.refl w.heap.size w).alloc (Nat.le_refl _) _).alloc (by simp) _⟩
set_option maxRecDepth 100000 in
set_option maxHeartbeats 1000000 in
theorem same_7 : SameC (.mk 7 b i f t bs r l d c v) (.mk 7 b' i' f' t' bs' r' l' d' c' v') := by
  rintro x y w ⟨Ab, cb, Al, cl, Ad, cd, rfl, hk, hi, ht, hbl, ⟨hbn, hbs⟩, hr0, hr1, hc, hv, ⟨hll, hl⟩, ⟨hdl, hd⟩⟩ ⟨Ab', cb', Al', cl', Ad', cd', rfl, hk', hi', ht', hbl', ⟨hbn', hbs'⟩, hr0', hr1', hc', hv', ⟨hll', hl'⟩, ⟨hdl', hd'⟩⟩
  have hF : sameT (.mk 7 b i f t bs r l d c v) (.mk 7 b' i' f' t' bs' r' l' d' c' v') = decide (r = r') := by
    rw [sameT]; simp
  rw [hF]
  clear hbs hl hd hbs' hl' hd' hF
  unfold termOf
  go_enter Tryz.func70, Tryz.ntmps70
  go_wp2
  go_ret
  exact ⟨rfl, ((Below.refl w.heap.size w).alloc (Nat.le_refl _) _).alloc (by simp) _⟩
set_option maxRecDepth 100000 in
set_option maxHeartbeats 1000000 in
theorem same_11 : SameC (.mk 11 b i f t bs r l d c v) (.mk 11 b' i' f' t' bs' r' l' d' c' v') := by
  rintro x y w ⟨Ab, cb, Al, cl, Ad, cd, rfl, hk, hi, ht, hbl, ⟨hbn, hbs⟩, hr0, hr1, hc, hv, ⟨hll, hl⟩, ⟨hdl, hd⟩⟩ ⟨Ab', cb', Al', cl', Ad', cd', rfl, hk', hi', ht', hbl', ⟨hbn', hbs'⟩, hr0', hr1', hc', hv', ⟨hll', hl'⟩, ⟨hdl', hd'⟩⟩
  have hF : sameT (.mk 11 b i f t bs r l d c v) (.mk 11 b' i' f' t' bs' r' l' d' c' v') = true := by
    rw [sameT]; simp
  rw [hF]
  clear hbs hl hd hbs' hl' hd' hF
  unfold termOf
  go_enter Tryz.func70, Tryz.ntmps70
  go_wp2
  go_ret
  exact ⟨rfl, ((Below.refl w.heap.size w).alloc (Nat.le_refl _) _).alloc (by simp) _⟩
end
set_option maxRecDepth 100000 in
set_option maxHeartbeats 1000000 in
theorem Plain_any (x : V) (vv : Value) (w : World) (h : ∀ W, Below w.heap.size w W → Calls Tryz.prog 127 #[vv, .int .i64 0] W (TermPost (plainT x 0) W)) : Calls Tryz.prog 71 #[vv] w (TermPost (plainT x 0) w) := by
  have HB0 : Hid (Below w.heap.size w (w.alloc (.cells #[.int .i64 0, .bool false, .int .i64 0, .float .f64 0, .string ⟨#[]⟩, .slice none 0 0, .int .u64 0, .slice none 0 0, .slice none 0 0, .string ⟨#[]⟩, .int .i64 0] 29))) := Lib.hid ((Below.refl _ _).alloc (Nat.le_refl _) _)
  have hsz : (w.alloc (.cells #[.int .i64 0, .bool false, .int .i64 0, .float .f64 0, .string ⟨#[]⟩, .slice none 0 0, .int .u64 0, .slice none 0 0, .slice none 0 0, .string ⟨#[]⟩, .int .i64 0] 29)).heap.size = w.heap.size + 1 := by simp
  have HP := Lib.hid (h _ HB0.out)
  clear h
  generalize plainT x 0 = T at *
  go_enter Tryz.func71, Tryz.ntmps71
  go_wp2_with fail
  refine HP.out.mono ?_
  rintro e w1 ⟨u, rfl, hu, hbw⟩
  have hlt : w.heap.size < w1.heap.size := by have := hbw.size; rw [hsz] at this; omega
  have hbw0 : Below w.heap.size w w1 := HB0.out.trans (hbw.mono (by rw [hsz]; omega))
  have HTY := Lib.hid hu
  obtain ⟨m0, m1, m2, m3, m4, m5, m6, m7, m8, m9, m10, rfl, h1c⟩ := hu.eleven
  have o0 := fun (W : World) (a : Addr) (m : Mode) => run_store Tryz.prog W a m0 m (h1c m0 (by simp))
  have o1 := fun (W : World) (a : Addr) (m : Mode) => run_store Tryz.prog W a m1 m (h1c m1 (by simp))
  have o2 := fun (W : World) (a : Addr) (m : Mode) => run_store Tryz.prog W a m2 m (h1c m2 (by simp))
  have o3 := fun (W : World) (a : Addr) (m : Mode) => run_store Tryz.prog W a m3 m (h1c m3 (by simp))
  have o4 := fun (W : World) (a : Addr) (m : Mode) => run_store Tryz.prog W a m4 m (h1c m4 (by simp))
  have o5 := fun (W : World) (a : Addr) (m : Mode) => run_store Tryz.prog W a m5 m (h1c m5 (by simp))
  have o6 := fun (W : World) (a : Addr) (m : Mode) => run_store Tryz.prog W a m6 m (h1c m6 (by simp))
  have o7 := fun (W : World) (a : Addr) (m : Mode) => run_store Tryz.prog W a m7 m (h1c m7 (by simp))
  have o8 := fun (W : World) (a : Addr) (m : Mode) => run_store Tryz.prog W a m8 m (h1c m8 (by simp))
  have o9 := fun (W : World) (a : Addr) (m : Mode) => run_store Tryz.prog W a m9 m (h1c m9 (by simp))
  have o10 := fun (W : World) (a : Addr) (m : Mode) => run_store Tryz.prog W a m10 m (h1c m10 (by simp))
  have qe : ∀ o, w1.cell? ⟨w.heap.size, o, none⟩ = (w.alloc (.cells #[.int .i64 0, .bool false, .int .i64 0, .float .f64 0, .string ⟨#[]⟩, .slice none 0 0, .int .u64 0, .slice none 0 0, .slice none 0 0, .string ⟨#[]⟩, .int .i64 0] 29)).cell? ⟨w.heap.size, o, none⟩ := fun o => hbw.cell (p := ⟨w.heap.size, o, none⟩) (show w.heap.size < _ by rw [hsz]; omega)
  have qf : ∀ o, w1.frozen? ⟨w.heap.size, o, none⟩ = (w.alloc (.cells #[.int .i64 0, .bool false, .int .i64 0, .float .f64 0, .string ⟨#[]⟩, .slice none 0 0, .int .u64 0, .slice none 0 0, .slice none 0 0, .string ⟨#[]⟩, .int .i64 0] 29)).frozen? ⟨w.heap.size, o, none⟩ := fun o => hbw.frozen (p := ⟨w.heap.size, o, none⟩) (show w.heap.size < _ by rw [hsz]; omega)
  clear hu h1c
  unfold termOf
  go_wp2
  have hfin : Below w.heap.size w1 (((((((((((w1.setCell ⟨w.heap.size, 0, none⟩ (m0)).setCell ⟨w.heap.size, 1, none⟩ (m1)).setCell ⟨w.heap.size, 2, none⟩ (m2)).setCell ⟨w.heap.size, 3, none⟩ (m3)).setCell ⟨w.heap.size, 4, none⟩ (m4)).setCell ⟨w.heap.size, 5, none⟩ (m5)).setCell ⟨w.heap.size, 6, none⟩ (m6)).setCell ⟨w.heap.size, 7, none⟩ (m7)).setCell ⟨w.heap.size, 8, none⟩ (m8)).setCell ⟨w.heap.size, 9, none⟩ (m9)).setCell ⟨w.heap.size, 10, none⟩ (m10)) := ((((((((((((Below.refl w.heap.size w1).setCell (p := ⟨w.heap.size, 0, none⟩) (Nat.le_refl _) (m0)).setCell (p := ⟨w.heap.size, 1, none⟩) (Nat.le_refl _) (m1)).setCell (p := ⟨w.heap.size, 2, none⟩) (Nat.le_refl _) (m2)).setCell (p := ⟨w.heap.size, 3, none⟩) (Nat.le_refl _) (m3)).setCell (p := ⟨w.heap.size, 4, none⟩) (Nat.le_refl _) (m4)).setCell (p := ⟨w.heap.size, 5, none⟩) (Nat.le_refl _) (m5)).setCell (p := ⟨w.heap.size, 6, none⟩) (Nat.le_refl _) (m6)).setCell (p := ⟨w.heap.size, 7, none⟩) (Nat.le_refl _) (m7)).setCell (p := ⟨w.heap.size, 8, none⟩) (Nat.le_refl _) (m8)).setCell (p := ⟨w.heap.size, 9, none⟩) (Nat.le_refl _) (m9)).setCell (p := ⟨w.heap.size, 10, none⟩) (Nat.le_refl _) (m10))
  have hkeep : ∀ p : Addr, p.block ≠ w.heap.size → (((((((((((w1.setCell ⟨w.heap.size, 0, none⟩ (m0)).setCell ⟨w.heap.size, 1, none⟩ (m1)).setCell ⟨w.heap.size, 2, none⟩ (m2)).setCell ⟨w.heap.size, 3, none⟩ (m3)).setCell ⟨w.heap.size, 4, none⟩ (m4)).setCell ⟨w.heap.size, 5, none⟩ (m5)).setCell ⟨w.heap.size, 6, none⟩ (m6)).setCell ⟨w.heap.size, 7, none⟩ (m7)).setCell ⟨w.heap.size, 8, none⟩ (m8)).setCell ⟨w.heap.size, 9, none⟩ (m9)).setCell ⟨w.heap.size, 10, none⟩ (m10)).cell? p = w1.cell? p := by
    intro p h1
    have g1 : ∀ o, (⟨w.heap.size, o, none⟩ : Addr) ≠ p := fun o h => h1 (by rw [← h])
    rw [World.cell?_setCell_other _ _ _ _ (g1 _), World.cell?_setCell_other _ _ _ _ (g1 _), World.cell?_setCell_other _ _ _ _ (g1 _), World.cell?_setCell_other _ _ _ _ (g1 _), World.cell?_setCell_other _ _ _ _ (g1 _), World.cell?_setCell_other _ _ _ _ (g1 _), World.cell?_setCell_other _ _ _ _ (g1 _), World.cell?_setCell_other _ _ _ _ (g1 _), World.cell?_setCell_other _ _ _ _ (g1 _), World.cell?_setCell_other _ _ _ _ (g1 _), World.cell?_setCell_other _ _ _ _ (g1 _)]
  (try simp only [Exit.inBlock, Exit.then]); refine bodyPost_ret (v := .agg #[m0, m1, m2, m3, m4, m5, m6, m7, m8, m9, m10]) (by simp [results, Tryz.results71, go_sem, qe, hlt]) rfl ?_
  generalize (((((((((((w1.setCell ⟨w.heap.size, 0, none⟩ (m0)).setCell ⟨w.heap.size, 1, none⟩ (m1)).setCell ⟨w.heap.size, 2, none⟩ (m2)).setCell ⟨w.heap.size, 3, none⟩ (m3)).setCell ⟨w.heap.size, 4, none⟩ (m4)).setCell ⟨w.heap.size, 5, none⟩ (m5)).setCell ⟨w.heap.size, 6, none⟩ (m6)).setCell ⟨w.heap.size, 7, none⟩ (m7)).setCell ⟨w.heap.size, 8, none⟩ (m8)).setCell ⟨w.heap.size, 9, none⟩ (m9)).setCell ⟨w.heap.size, 10, none⟩ (m10)) = W at *
  have hbW := hbw0.trans hfin
  have hF : ∀ b, New (w.alloc (.cells #[.int .i64 0, .bool false, .int .i64 0, .float .f64 0, .string ⟨#[]⟩, .slice none 0 0, .int .u64 0, .slice none 0 0, .slice none 0 0, .string ⟨#[]⟩, .int .i64 0] 29)) w1 b → b ≠ w.heap.size ∧ New w W b := by
    rintro b ⟨g1, g2⟩
    rw [hsz] at g1
    exact ⟨by omega, by omega, Nat.lt_of_lt_of_le g2 hfin.size⟩
  exact ⟨[m0, m1, m2, m3, m4, m5, m6, m7, m8, m9, m10], rfl, RdTS.more (fun b h => (hF b h).2) _ _ (RdTS.keep (fun p hp => hkeep p (hF _ hp).1) _ _ HTY.out), hbW⟩
/- The values that the laws of logic answer: what they are as terms, in every world. -/
end Go.Proofs.YtobpkelblpdajaaGreatDoor
