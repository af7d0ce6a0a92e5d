/- Walks: what is wrong with a term by itself (the document's own). -/
import Derived.Test.YtobpkelblpdajaaGreatDoorPR36
import Derived.Test.YtobpkelblpdajaaGreatDoorPR08
set_option linter.unusedVariables false
set_option linter.unusedSimpArgs false
set_option linter.unusedSectionVars false
namespace Go.Proofs.YtobpkelblpdajaaGreatDoor
open Go Go.RowKit
theorem fields_names {l : List (ByteArray × Tm)} {k : Nat} {p : ByteArray × Tm} (h : l[k]? = some p) : (builtD l)[k]? = some (p.1, builtV p.2) := by
  rw [builtD_eq, List.getElem?_map, h]; rfl
theorem builtD_len (l : List (ByteArray × Tm)) : (builtD l).length = l.length := by rw [builtD_eq, List.length_map]
section
variable (b : Bool) (i : Int) (f : Nat) (t : ByteArray) (bs : List UInt8) (r : Int) (l : List Tm) (d : List (ByteArray × Tm)) (c : ByteArray) (v : Int) (x : List Value) (n deep : Nat) (w : World)
set_option maxRecDepth 100000 in
set_option maxHeartbeats 2000000 in
theorem rown_11 (hx : RdT w w.heap.size (.mk 11 b i f t bs r l d c v) x) : Calls Tryz.prog 83 #[termOf x, .int .i64 n, .int .i64 deep] w (fun e w' => e = .returned (.int .i64 (ownV (builtV (.mk 11 b i f t bs r l d c v)) n deep)) ∧ Below w.heap.size w w') := by
  obtain ⟨Ab, cb, Al, cl, Ad, cd, rfl, hk, hi, ht, hbl, ⟨hbn, hbs⟩, hr0, hr1, hc, hv, ⟨hll, hl⟩, ⟨hdl, hd⟩⟩ := hx
  have HF : Hid (ownV (builtV (.mk 11 b i f t bs r l d c v)) n deep = 7) := Lib.hid (by
    show ownV .nothing n deep = 7
    unfold ownV; split <;> rfl)
  clear hbs hl hd
  unfold termOf
  go_enter Tryz.func83, Tryz.ntmps83
  go_wp2
  go_ret
  exact ⟨ret_int (by rw [HF.out]; rfl), (Below.refl _ _).alloc (Nat.le_refl _) _⟩
set_option maxRecDepth 100000 in
set_option maxHeartbeats 2000000 in
theorem rown_low (k : Int) (h : k < 1) (hx : RdT w w.heap.size (.mk k b i f t bs r l d c v) x) : Calls Tryz.prog 83 #[termOf x, .int .i64 n, .int .i64 deep] w (fun e w' => e = .returned (.int .i64 (ownV (builtV (.mk k b i f t bs r l d c v)) n deep)) ∧ Below w.heap.size w w') := by
  obtain ⟨Ab, cb, Al, cl, Ad, cd, rfl, hk, hi, ht, hbl, ⟨hbn, hbs⟩, hr0, hr1, hc, hv, ⟨hll, hl⟩, ⟨hdl, hd⟩⟩ := hx
  have HF : Hid (ownV (builtV (.mk k b i f t bs r l d c v)) n deep = 6) := Lib.hid (by
    rw [show builtV (.mk k b i f t bs r l d c v) = .alien by rw [builtV]; repeat rw [if_neg (by omega)]]
    unfold ownV; split <;> rfl)
  have q0 : (k == 11) = false := by rw [beq_eq_false_iff_ne]; omega
  clear hbs hl hd
  unfold termOf
  go_enter Tryz.func83, Tryz.ntmps83
  go_wp2
  go_ret
  exact ⟨ret_int (by rw [HF.out]; rfl), (Below.refl _ _).alloc (Nat.le_refl _) _⟩
set_option maxRecDepth 100000 in
set_option maxHeartbeats 2000000 in
theorem rown_high (k : Int) (h : 10 < k) (h2 : k ≠ 11) (hx : RdT w w.heap.size (.mk k b i f t bs r l d c v) x) : Calls Tryz.prog 83 #[termOf x, .int .i64 n, .int .i64 deep] w (fun e w' => e = .returned (.int .i64 (ownV (builtV (.mk k b i f t bs r l d c v)) n deep)) ∧ Below w.heap.size w w') := by
  obtain ⟨Ab, cb, Al, cl, Ad, cd, rfl, hk, hi, ht, hbl, ⟨hbn, hbs⟩, hr0, hr1, hc, hv, ⟨hll, hl⟩, ⟨hdl, hd⟩⟩ := hx
  have HF : Hid (ownV (builtV (.mk k b i f t bs r l d c v)) n deep = 6) := Lib.hid (by
    rw [show builtV (.mk k b i f t bs r l d c v) = .alien by rw [builtV]; repeat rw [if_neg (by omega)]]
    unfold ownV; split <;> rfl)
  have q0 : (k == 11) = false := by rw [beq_eq_false_iff_ne]; omega
  have q1 : ¬ k < 1 := by omega
  clear hbs hl hd
  unfold termOf
  go_enter Tryz.func83, Tryz.ntmps83
  go_wp2
  go_ret
  exact ⟨ret_int (by rw [HF.out]; rfl), (Below.refl _ _).alloc (Nat.le_refl _) _⟩
set_option maxRecDepth 100000 in
set_option maxHeartbeats 2000000 in
theorem rown_far (k : Int) (h1 : 1 ≤ k) (h2 : k ≤ 10) (hf : 16384 ≤ n ∨ 64 < deep) (hx : RdT w w.heap.size (.mk k b i f t bs r l d c v) x) : Calls Tryz.prog 83 #[termOf x, .int .i64 n, .int .i64 deep] w (fun e w' => e = .returned (.int .i64 (ownV (builtV (.mk k b i f t bs r l d c v)) n deep)) ∧ Below w.heap.size w w') := by
  obtain ⟨Ab, cb, Al, cl, Ad, cd, rfl, hk, hi, ht, hbl, ⟨hbn, hbs⟩, hr0, hr1, hc, hv, ⟨hll, hl⟩, ⟨hdl, hd⟩⟩ := hx
  have HF : Hid (ownV (builtV (.mk k b i f t bs r l d c v)) n deep = 2) := Lib.hid (by
    rw [ownV_far hf]
    have : k = 1 ∨ k = 2 ∨ k = 3 ∨ k = 4 ∨ k = 5 ∨ k = 6 ∨ k = 7 ∨ k = 8 ∨ k = 9 ∨ k = 10 := by omega
    rcases this with rfl | rfl | rfl | rfl | rfl | rfl | rfl | rfl | rfl | rfl <;> simp [builtV, farV])
  have q0 : (k == 11) = false := by rw [beq_eq_false_iff_ne]; omega
  have q1 : ¬ k < 1 := by omega
  have q2 : ¬ 10 < k := by omega
  clear hbs hl hd
  rcases hf with hf | hf
  · have q3 : (16384 : Int) ≤ n := by omega
    unfold termOf
    go_enter Tryz.func83, Tryz.ntmps83
    go_wp2
    go_ret
    exact ⟨ret_int (by rw [HF.out]; rfl), (Below.refl _ _).alloc (Nat.le_refl _) _⟩
  · have q4 : (64 : Int) < deep := by omega
    unfold termOf
    go_enter Tryz.func83, Tryz.ntmps83
    by_cases hn : (16384 : Int) ≤ n
    · go_wp2
      go_ret
      exact ⟨ret_int (by rw [HF.out]; rfl), (Below.refl _ _).alloc (Nat.le_refl _) _⟩
    · go_wp2
      go_ret
      exact ⟨ret_int (by rw [HF.out]; rfl), (Below.refl _ _).alloc (Nat.le_refl _) _⟩
set_option maxRecDepth 100000 in
set_option maxHeartbeats 2000000 in
theorem rown_1 (hn : n < 16384) (hdp : deep ≤ 64) (hx : RdT w w.heap.size (.mk 1 b i f t bs r l d c v) x) : Calls Tryz.prog 83 #[termOf x, .int .i64 n, .int .i64 deep] w (fun e w' => e = .returned (.int .i64 (ownV (builtV (.mk 1 b i f t bs r l d c v)) n deep)) ∧ Below w.heap.size w w') := by
  obtain ⟨Ab, cb, Al, cl, Ad, cd, rfl, hk, hi, ht, hbl, ⟨hbn, hbs⟩, hr0, hr1, hc, hv, ⟨hll, hl⟩, ⟨hdl, hd⟩⟩ := hx
  have HF : Hid (ownV (builtV (.mk 1 b i f t bs r l d c v)) n deep = 0) := Lib.hid (by
    have hnf : ¬ (16384 ≤ n ∨ 64 < deep) := by omega
    unfold ownV; rw [if_neg hnf]; simp [builtV])
  have g1 : ¬ (16384 : Int) ≤ n := by omega
  have g2 : ¬ (64 : Int) < deep := by omega
  clear hbs hl hd
  unfold termOf
  go_enter Tryz.func83, Tryz.ntmps83
  go_wp2
  go_ret
  exact ⟨ret_int (by rw [HF.out]; rfl), (Below.refl _ _).alloc (Nat.le_refl _) _⟩
set_option maxRecDepth 100000 in
set_option maxHeartbeats 2000000 in
theorem rown_2 (hn : n < 16384) (hdp : deep ≤ 64) (hx : RdT w w.heap.size (.mk 2 b i f t bs r l d c v) x) : Calls Tryz.prog 83 #[termOf x, .int .i64 n, .int .i64 deep] w (fun e w' => e = .returned (.int .i64 (ownV (builtV (.mk 2 b i f t bs r l d c v)) n deep)) ∧ Below w.heap.size w w') := by
  obtain ⟨Ab, cb, Al, cl, Ad, cd, rfl, hk, hi, ht, hbl, ⟨hbn, hbs⟩, hr0, hr1, hc, hv, ⟨hll, hl⟩, ⟨hdl, hd⟩⟩ := hx
  have HF : Hid (ownV (builtV (.mk 2 b i f t bs r l d c v)) n deep = 0) := Lib.hid (by
    have hnf : ¬ (16384 ≤ n ∨ 64 < deep) := by omega
    unfold ownV; rw [if_neg hnf]; simp [builtV])
  have g1 : ¬ (16384 : Int) ≤ n := by omega
  have g2 : ¬ (64 : Int) < deep := by omega
  clear hbs hl hd
  unfold termOf
  go_enter Tryz.func83, Tryz.ntmps83
  go_wp2
  go_ret
  exact ⟨ret_int (by rw [HF.out]; rfl), (Below.refl _ _).alloc (Nat.le_refl _) _⟩
set_option maxRecDepth 100000 in
set_option maxHeartbeats 2000000 in
theorem rown_3 (hn : n < 16384) (hdp : deep ≤ 64) (hx : RdT w w.heap.size (.mk 3 b i f t bs r l d c v) x) : Calls Tryz.prog 83 #[termOf x, .int .i64 n, .int .i64 deep] w (fun e w' => e = .returned (.int .i64 (ownV (builtV (.mk 3 b i f t bs r l d c v)) n deep)) ∧ Below w.heap.size w w') := by
  obtain ⟨Ab, cb, Al, cl, Ad, cd, rfl, hk, hi, ht, hbl, ⟨hbn, hbs⟩, hr0, hr1, hc, hv, ⟨hll, hl⟩, ⟨hdl, hd⟩⟩ := hx
  have HF : Hid (ownV (builtV (.mk 3 b i f t bs r l d c v)) n deep = 0) := Lib.hid (by
    have hnf : ¬ (16384 ≤ n ∨ 64 < deep) := by omega
    unfold ownV; rw [if_neg hnf]; simp [builtV])
  have g1 : ¬ (16384 : Int) ≤ n := by omega
  have g2 : ¬ (64 : Int) < deep := by omega
  clear hbs hl hd
  unfold termOf
  go_enter Tryz.func83, Tryz.ntmps83
  go_wp2
  go_ret
  exact ⟨ret_int (by rw [HF.out]; rfl), (Below.refl _ _).alloc (Nat.le_refl _) _⟩
set_option maxRecDepth 100000 in
set_option maxHeartbeats 2000000 in
theorem rown_4 (hn : n < 16384) (hdp : deep ≤ 64) (hx : RdT w w.heap.size (.mk 4 b i f t bs r l d c v) x) : Calls Tryz.prog 83 #[termOf x, .int .i64 n, .int .i64 deep] w (fun e w' => e = .returned (.int .i64 (ownV (builtV (.mk 4 b i f t bs r l d c v)) n deep)) ∧ Below w.heap.size w w') := by
  obtain ⟨Ab, cb, Al, cl, Ad, cd, rfl, hk, hi, ht, hbl, ⟨hbn, hbs⟩, hr0, hr1, hc, hv, ⟨hll, hl⟩, ⟨hdl, hd⟩⟩ := hx
  have HF : Hid (ownV (builtV (.mk 4 b i f t bs r l d c v)) n deep = 0) := Lib.hid (by
    have hnf : ¬ (16384 ≤ n ∨ 64 < deep) := by omega
    unfold ownV; rw [if_neg hnf]; simp [builtV])
  have g1 : ¬ (16384 : Int) ≤ n := by omega
  have g2 : ¬ (64 : Int) < deep := by omega
  clear hbs hl hd
  unfold termOf
  go_enter Tryz.func83, Tryz.ntmps83
  go_wp2
  go_ret
  exact ⟨ret_int (by rw [HF.out]; rfl), (Below.refl _ _).alloc (Nat.le_refl _) _⟩
set_option maxRecDepth 100000 in
set_option maxHeartbeats 2000000 in
theorem rown_7 (hn : n < 16384) (hdp : deep ≤ 64) (hx : RdT w w.heap.size (.mk 7 b i f t bs r l d c v) x) : Calls Tryz.prog 83 #[termOf x, .int .i64 n, .int .i64 deep] w (fun e w' => e = .returned (.int .i64 (ownV (builtV (.mk 7 b i f t bs r l d c v)) n deep)) ∧ Below w.heap.size w w') := by
  obtain ⟨Ab, cb, Al, cl, Ad, cd, rfl, hk, hi, ht, hbl, ⟨hbn, hbs⟩, hr0, hr1, hc, hv, ⟨hll, hl⟩, ⟨hdl, hd⟩⟩ := hx
  have HF : Hid (ownV (builtV (.mk 7 b i f t bs r l d c v)) n deep = 0) := Lib.hid (by
    have hnf : ¬ (16384 ≤ n ∨ 64 < deep) := by omega
    unfold ownV; rw [if_neg hnf]; simp [builtV])
  have g1 : ¬ (16384 : Int) ≤ n := by omega
  have g2 : ¬ (64 : Int) < deep := by omega
  clear hbs hl hd
  unfold termOf
  go_enter Tryz.func83, Tryz.ntmps83
  go_wp2
  go_ret
  exact ⟨ret_int (by rw [HF.out]; rfl), (Below.refl _ _).alloc (Nat.le_refl _) _⟩
set_option maxRecDepth 100000 in
set_option maxHeartbeats 2000000 in
theorem rown_5a (hn : n < 16384) (hdp : deep ≤ 64) (h : 65536 < t.size) (hx : RdT w w.heap.size (.mk 5 b i f t bs r l d c v) x) : Calls Tryz.prog 83 #[termOf x, .int .i64 n, .int .i64 deep] w (fun e w' => e = .returned (.int .i64 (ownV (builtV (.mk 5 b i f t bs r l d c v)) n deep)) ∧ Below w.heap.size w w') := by
  obtain ⟨Ab, cb, Al, cl, Ad, cd, rfl, hk, hi, ht, hbl, ⟨hbn, hbs⟩, hr0, hr1, hc, hv, ⟨hll, hl⟩, ⟨hdl, hd⟩⟩ := hx
  have HF : Hid (ownV (builtV (.mk 5 b i f t bs r l d c v)) n deep = 2) := Lib.hid (by
    have hnf : ¬ (16384 ≤ n ∨ 64 < deep) := by omega
    unfold ownV; rw [if_neg hnf]; simp [builtV, h])
  have g1 : ¬ (16384 : Int) ≤ n := by omega
  have g2 : ¬ (64 : Int) < deep := by omega
  have g3 : (65536 : Int) < t.size := by omega
  clear hbs hl hd
  unfold termOf
  go_enter Tryz.func83, Tryz.ntmps83
  go_wp2
  go_ret
  exact ⟨ret_int (by rw [HF.out]; rfl), (Below.refl _ _).alloc (Nat.le_refl _) _⟩
set_option maxRecDepth 100000 in
set_option maxHeartbeats 2000000 in
theorem rown_5b (hn : n < 16384) (hdp : deep ≤ 64) (h : ¬ 65536 < t.size) (hx : RdT w w.heap.size (.mk 5 b i f t bs r l d c v) x) : Calls Tryz.prog 83 #[termOf x, .int .i64 n, .int .i64 deep] w (fun e w' => e = .returned (.int .i64 (ownV (builtV (.mk 5 b i f t bs r l d c v)) n deep)) ∧ Below w.heap.size w w') := by
  obtain ⟨Ab, cb, Al, cl, Ad, cd, rfl, hk, hi, ht, hbl, ⟨hbn, hbs⟩, hr0, hr1, hc, hv, ⟨hll, hl⟩, ⟨hdl, hd⟩⟩ := hx
  have HF : Hid (ownV (builtV (.mk 5 b i f t bs r l d c v)) n deep = 0) := Lib.hid (by
    have hnf : ¬ (16384 ≤ n ∨ 64 < deep) := by omega
    unfold ownV; rw [if_neg hnf]; simp [builtV, h])
  have g1 : ¬ (16384 : Int) ≤ n := by omega
  have g2 : ¬ (64 : Int) < deep := by omega
  have g3 : ¬ (65536 : Int) < t.size := by omega
  clear hbs hl hd
  unfold termOf
  go_enter Tryz.func83, Tryz.ntmps83
  go_wp2
  go_ret
  exact ⟨ret_int (by rw [HF.out]; rfl), (Below.refl _ _).alloc (Nat.le_refl _) _⟩
set_option maxRecDepth 100000 in
set_option maxHeartbeats 2000000 in
theorem rown_6a (hn : n < 16384) (hdp : deep ≤ 64) (h : 65536 < bs.length) (hx : RdT w w.heap.size (.mk 6 b i f t bs r l d c v) x) : Calls Tryz.prog 83 #[termOf x, .int .i64 n, .int .i64 deep] w (fun e w' => e = .returned (.int .i64 (ownV (builtV (.mk 6 b i f t bs r l d c v)) n deep)) ∧ Below w.heap.size w w') := by
  obtain ⟨Ab, cb, Al, cl, Ad, cd, rfl, hk, hi, ht, hbl, ⟨hbn, hbs⟩, hr0, hr1, hc, hv, ⟨hll, hl⟩, ⟨hdl, hd⟩⟩ := hx
  have HF : Hid (ownV (builtV (.mk 6 b i f t bs r l d c v)) n deep = 2) := Lib.hid (by
    have hnf : ¬ (16384 ≤ n ∨ 64 < deep) := by omega
    unfold ownV; rw [if_neg hnf]; simp [builtV, h])
  have g1 : ¬ (16384 : Int) ≤ n := by omega
  have g2 : ¬ (64 : Int) < deep := by omega
  have g3 : (65536 : Int) < bs.length := by omega
  clear hbs hl hd
  unfold termOf
  go_enter Tryz.func83, Tryz.ntmps83
  go_wp2
  go_ret
  exact ⟨ret_int (by rw [HF.out]; rfl), (Below.refl _ _).alloc (Nat.le_refl _) _⟩
set_option maxRecDepth 100000 in
set_option maxHeartbeats 2000000 in
theorem rown_6b (hn : n < 16384) (hdp : deep ≤ 64) (h : ¬ 65536 < bs.length) (hx : RdT w w.heap.size (.mk 6 b i f t bs r l d c v) x) : Calls Tryz.prog 83 #[termOf x, .int .i64 n, .int .i64 deep] w (fun e w' => e = .returned (.int .i64 (ownV (builtV (.mk 6 b i f t bs r l d c v)) n deep)) ∧ Below w.heap.size w w') := by
  obtain ⟨Ab, cb, Al, cl, Ad, cd, rfl, hk, hi, ht, hbl, ⟨hbn, hbs⟩, hr0, hr1, hc, hv, ⟨hll, hl⟩, ⟨hdl, hd⟩⟩ := hx
  have HF : Hid (ownV (builtV (.mk 6 b i f t bs r l d c v)) n deep = 0) := Lib.hid (by
    have hnf : ¬ (16384 ≤ n ∨ 64 < deep) := by omega
    unfold ownV; rw [if_neg hnf]; simp [builtV, h])
  have g1 : ¬ (16384 : Int) ≤ n := by omega
  have g2 : ¬ (64 : Int) < deep := by omega
  have g3 : ¬ (65536 : Int) < bs.length := by omega
  clear hbs hl hd
  unfold termOf
  go_enter Tryz.func83, Tryz.ntmps83
  go_wp2
  go_ret
  exact ⟨ret_int (by rw [HF.out]; rfl), (Below.refl _ _).alloc (Nat.le_refl _) _⟩
set_option maxRecDepth 100000 in
set_option maxHeartbeats 2000000 in
theorem rown_8a (hn : n < 16384) (hdp : deep ≤ 64) (h : 4096 < l.length) (hx : RdT w w.heap.size (.mk 8 b i f t bs r l d c v) x) : Calls Tryz.prog 83 #[termOf x, .int .i64 n, .int .i64 deep] w (fun e w' => e = .returned (.int .i64 (ownV (builtV (.mk 8 b i f t bs r l d c v)) n deep)) ∧ Below w.heap.size w w') := by
  obtain ⟨Ab, cb, Al, cl, Ad, cd, rfl, hk, hi, ht, hbl, ⟨hbn, hbs⟩, hr0, hr1, hc, hv, ⟨hll, hl⟩, ⟨hdl, hd⟩⟩ := hx
  have HF : Hid (ownV (builtV (.mk 8 b i f t bs r l d c v)) n deep = 2) := Lib.hid (by
    have hnf : ¬ (16384 ≤ n ∨ 64 < deep) := by omega
    unfold ownV; rw [if_neg hnf]; simp [builtV, h, builtL_eq])
  have g1 : ¬ (16384 : Int) ≤ n := by omega
  have g2 : ¬ (64 : Int) < deep := by omega
  have g3 : (4096 : Int) < l.length := by omega
  clear hbs hl hd
  unfold termOf
  go_enter Tryz.func83, Tryz.ntmps83
  go_wp2
  go_ret
  exact ⟨ret_int (by rw [HF.out]; rfl), (Below.refl _ _).alloc (Nat.le_refl _) _⟩
set_option maxRecDepth 100000 in
set_option maxHeartbeats 2000000 in
theorem rown_8b (hn : n < 16384) (hdp : deep ≤ 64) (h : ¬ 4096 < l.length) (hx : RdT w w.heap.size (.mk 8 b i f t bs r l d c v) x) : Calls Tryz.prog 83 #[termOf x, .int .i64 n, .int .i64 deep] w (fun e w' => e = .returned (.int .i64 (ownV (builtV (.mk 8 b i f t bs r l d c v)) n deep)) ∧ Below w.heap.size w w') := by
  obtain ⟨Ab, cb, Al, cl, Ad, cd, rfl, hk, hi, ht, hbl, ⟨hbn, hbs⟩, hr0, hr1, hc, hv, ⟨hll, hl⟩, ⟨hdl, hd⟩⟩ := hx
  have HF : Hid (ownV (builtV (.mk 8 b i f t bs r l d c v)) n deep = 0) := Lib.hid (by
    have hnf : ¬ (16384 ≤ n ∨ 64 < deep) := by omega
    unfold ownV; rw [if_neg hnf]; simp [builtV, h, builtL_eq])
  have g1 : ¬ (16384 : Int) ≤ n := by omega
  have g2 : ¬ (64 : Int) < deep := by omega
  have g3 : ¬ (4096 : Int) < l.length := by omega
  clear hbs hl hd
  unfold termOf
  go_enter Tryz.func83, Tryz.ntmps83
  go_wp2
  go_ret
  exact ⟨ret_int (by rw [HF.out]; rfl), (Below.refl _ _).alloc (Nat.le_refl _) _⟩
set_option maxRecDepth 100000 in
set_option maxHeartbeats 2000000 in
theorem rown_9a (hn : n < 16384) (hdp : deep ≤ 64) (h : 4096 < d.length) (hx : RdT w w.heap.size (.mk 9 b i f t bs r l d c v) x) : Calls Tryz.prog 83 #[termOf x, .int .i64 n, .int .i64 deep] w (fun e w' => e = .returned (.int .i64 (ownV (builtV (.mk 9 b i f t bs r l d c v)) n deep)) ∧ Below w.heap.size w w') := by
  obtain ⟨Ab, cb, Al, cl, Ad, cd, rfl, hk, hi, ht, hbl, ⟨hbn, hbs⟩, hr0, hr1, hc, hv, ⟨hll, hl⟩, ⟨hdl, hd⟩⟩ := hx
  have HF : Hid (ownV (builtV (.mk 9 b i f t bs r l d c v)) n deep = 2) := Lib.hid (by
    have hnf : ¬ (16384 ≤ n ∨ 64 < deep) := by omega
    unfold ownV; rw [if_neg hnf]; exact fieldsV_long (l := builtD d) (by rw [builtD_len]; exact h))
  have g1 : ¬ (16384 : Int) ≤ n := by omega
  have g2 : ¬ (64 : Int) < deep := by omega
  have g3 : (4096 : Int) < d.length := by omega
  clear hbs hl hd
  unfold termOf
  go_enter Tryz.func83, Tryz.ntmps83
  go_wp2
  go_ret
  exact ⟨ret_int (by rw [HF.out]; rfl), (Below.refl _ _).alloc (Nat.le_refl _) _⟩
set_option maxRecDepth 100000 in
set_option maxHeartbeats 2000000 in
theorem rown_10n (hn : n < 16384) (hdp : deep ≤ 64) (h : nameB c.data.toList = false) (hx : RdT w w.heap.size (.mk 10 b i f t bs r l d c v) x) : Calls Tryz.prog 83 #[termOf x, .int .i64 n, .int .i64 deep] w (fun e w' => e = .returned (.int .i64 (ownV (builtV (.mk 10 b i f t bs r l d c v)) n deep)) ∧ Below w.heap.size w w') := by
  obtain ⟨Ab, cb, Al, cl, Ad, cd, rfl, hk, hi, ht, hbl, ⟨hbn, hbs⟩, hr0, hr1, hc, hv, ⟨hll, hl⟩, ⟨hdl, hd⟩⟩ := hx
  have HF : Hid (ownV (builtV (.mk 10 b i f t bs r l d c v)) n deep = 8) := Lib.hid (by
    have hnf : ¬ (16384 ≤ n ∨ 64 < deep) := by omega
    unfold ownV; rw [if_neg hnf]; simp [builtV, h])
  have g1 : ¬ (16384 : Int) ≤ n := by omega
  have g2 : ¬ (64 : Int) < deep := by omega
  have HN := fun (W : World) => rname_any c W hc
  rw [h] at HN
  have HNN := Lib.hid HN
  clear HN hbs hl hd
  unfold termOf
  go_enter Tryz.func83, Tryz.ntmps83
  go_wp2_with fail
  refine (HNN.out _).mono ?_
  rintro e w1 ⟨rfl, rfl⟩
  go_wp2
  go_ret
  exact ⟨ret_int (by rw [HF.out]; rfl), (Below.refl _ _).alloc (Nat.le_refl _) _⟩
set_option maxRecDepth 100000 in
set_option maxHeartbeats 2000000 in
theorem rown_10v (hn : n < 16384) (hdp : deep ≤ 64) (h : nameB c.data.toList = true) (h2 : v < 1) (hx : RdT w w.heap.size (.mk 10 b i f t bs r l d c v) x) : Calls Tryz.prog 83 #[termOf x, .int .i64 n, .int .i64 deep] w (fun e w' => e = .returned (.int .i64 (ownV (builtV (.mk 10 b i f t bs r l d c v)) n deep)) ∧ Below w.heap.size w w') := by
  obtain ⟨Ab, cb, Al, cl, Ad, cd, rfl, hk, hi, ht, hbl, ⟨hbn, hbs⟩, hr0, hr1, hc, hv, ⟨hll, hl⟩, ⟨hdl, hd⟩⟩ := hx
  have HF : Hid (ownV (builtV (.mk 10 b i f t bs r l d c v)) n deep = 1) := Lib.hid (by
    have hnf : ¬ (16384 ≤ n ∨ 64 < deep) := by omega
    unfold ownV; rw [if_neg hnf]; simp [builtV, h, h2])
  have g1 : ¬ (16384 : Int) ≤ n := by omega
  have g2 : ¬ (64 : Int) < deep := by omega
  have HN := fun (W : World) => rname_any c W hc
  rw [h] at HN
  have HNN := Lib.hid HN
  clear HN hbs hl hd
  unfold termOf
  go_enter Tryz.func83, Tryz.ntmps83
  go_wp2_with fail
  refine (HNN.out _).mono ?_
  rintro e w1 ⟨rfl, rfl⟩
  go_wp2
  go_ret
  exact ⟨ret_int (by rw [HF.out]; rfl), (Below.refl _ _).alloc (Nat.le_refl _) _⟩
set_option maxRecDepth 100000 in
set_option maxHeartbeats 2000000 in
theorem rown_10w (hn : n < 16384) (hdp : deep ≤ 64) (h : nameB c.data.toList = true) (h2 : 1000 < v) (hx : RdT w w.heap.size (.mk 10 b i f t bs r l d c v) x) : Calls Tryz.prog 83 #[termOf x, .int .i64 n, .int .i64 deep] w (fun e w' => e = .returned (.int .i64 (ownV (builtV (.mk 10 b i f t bs r l d c v)) n deep)) ∧ Below w.heap.size w w') := by
  obtain ⟨Ab, cb, Al, cl, Ad, cd, rfl, hk, hi, ht, hbl, ⟨hbn, hbs⟩, hr0, hr1, hc, hv, ⟨hll, hl⟩, ⟨hdl, hd⟩⟩ := hx
  have HF : Hid (ownV (builtV (.mk 10 b i f t bs r l d c v)) n deep = 1) := Lib.hid (by
    have hnf : ¬ (16384 ≤ n ∨ 64 < deep) := by omega
    unfold ownV; rw [if_neg hnf]; simp [builtV, h, h2])
  have g1 : ¬ (16384 : Int) ≤ n := by omega
  have g2 : ¬ (64 : Int) < deep := by omega
  have g4 : ¬ v < 1 := by omega
  have HN := fun (W : World) => rname_any c W hc
  rw [h] at HN
  have HNN := Lib.hid HN
  clear HN hbs hl hd
  unfold termOf
  go_enter Tryz.func83, Tryz.ntmps83
  go_wp2_with fail
  refine (HNN.out _).mono ?_
  rintro e w1 ⟨rfl, rfl⟩
  go_wp2
  go_ret
  exact ⟨ret_int (by rw [HF.out]; rfl), (Below.refl _ _).alloc (Nat.le_refl _) _⟩
set_option maxRecDepth 100000 in
set_option maxHeartbeats 2000000 in
theorem rown_10a (hn : n < 16384) (hdp : deep ≤ 64) (h : nameB c.data.toList = true) (h1 : ¬ v < 1) (h2 : ¬ 1000 < v) (h3 : 4096 < d.length) (hx : RdT w w.heap.size (.mk 10 b i f t bs r l d c v) x) : Calls Tryz.prog 83 #[termOf x, .int .i64 n, .int .i64 deep] w (fun e w' => e = .returned (.int .i64 (ownV (builtV (.mk 10 b i f t bs r l d c v)) n deep)) ∧ Below w.heap.size w w') := by
  obtain ⟨Ab, cb, Al, cl, Ad, cd, rfl, hk, hi, ht, hbl, ⟨hbn, hbs⟩, hr0, hr1, hc, hv, ⟨hll, hl⟩, ⟨hdl, hd⟩⟩ := hx
  have HF : Hid (ownV (builtV (.mk 10 b i f t bs r l d c v)) n deep = 2) := Lib.hid (by
    have hnf : ¬ (16384 ≤ n ∨ 64 < deep) := by omega
    have e : ownV (.record c v (builtD d)) n deep = fieldsV (builtD d) := by unfold ownV; rw [if_neg hnf]; simp only []; rw [if_neg (by rw [h]; simp), if_neg (by omega)]
    exact e.trans (fieldsV_long (by rw [builtD_len]; exact h3)))
  have g1 : ¬ (16384 : Int) ≤ n := by omega
  have g2 : ¬ (64 : Int) < deep := by omega
  have g3 : (4096 : Int) < d.length := by omega
  have HN := fun (W : World) => rname_any c W hc
  rw [h] at HN
  have HNN := Lib.hid HN
  clear HN hbs hl hd
  unfold termOf
  go_enter Tryz.func83, Tryz.ntmps83
  go_wp2_with fail
  refine (HNN.out _).mono ?_
  rintro e w1 ⟨rfl, rfl⟩
  go_wp2
  go_ret
  exact ⟨ret_int (by rw [HF.out]; rfl), (Below.refl _ _).alloc (Nat.le_refl _) _⟩
set_option maxRecDepth 100000 in
set_option maxHeartbeats 2000000 in
theorem rown_9b (hn : n < 16384) (hdp : deep ≤ 64) (h : ¬ 4096 < d.length) (hx : RdT w w.heap.size (.mk 9 b i f t bs r l d c v) x) : Calls Tryz.prog 83 #[termOf x, .int .i64 n, .int .i64 deep] w (fun e w' => e = .returned (.int .i64 (ownV (builtV (.mk 9 b i f t bs r l d c v)) n deep)) ∧ Below w.heap.size w w') := by
  obtain ⟨Ab, cb, Al, cl, Ad, cd, rfl, hk, hi, ht, hbl, ⟨hbn, hbs⟩, hr0, hr1, hc, hv, ⟨hll, hl⟩, ⟨hdl, hd⟩⟩ := hx
  have HU : Hid (ownV (builtV (.mk 9 b i f t bs r l d c v)) n deep = fieldsV (builtD d)) := Lib.hid (by
    have hnf : ¬ (16384 ≤ n ∨ 64 < deep) := by omega
    unfold ownV; rw [if_neg hnf]; rfl)
  have HA : Hid (Below w.heap.size w (w.alloc (.cells #[.int .i64 9, .bool b, .int .i64 i, .float .f64 f, .string t, .slice Ab bs.length cb, .int .u64 r, .slice Al l.length cl, .slice Ad d.length cd, .string c, .int .i64 v] 29))) := Lib.hid ((Below.refl _ _).alloc (Nat.le_refl _) _)
  have g1 : ¬ (16384 : Int) ≤ n := by omega
  have g2 : ¬ (64 : Int) < deep := by omega
  have hlen : (builtD d).length ≤ 4096 := by rw [builtD_len]; omega
  have g3 : ¬ (4096 : Int) < d.length := by omega
  clear hbs hl
  unfold termOf
  go_enter Tryz.func83, Tryz.ntmps83
  go_wp2
  go_loopw [7] (fun jx wr => ∃ k : Nat, jx = .int .i64 k ∧ k ≤ d.length ∧ Hid (FieldsTo (builtD d) k) ∧ Below (w.heap.size + 1) (w.alloc (.cells #[.int .i64 9, .bool b, .int .i64 i, .float .f64 f, .string t, .slice Ab bs.length cb, .int .u64 r, .slice Al l.length cl, .slice Ad d.length cd, .string c, .int .i64 v] 29)) wr) (fun jx _ => d.length - (intOf jx).toNat)
  case atStart => exact ⟨0, rfl, by omega, FieldsTo.zero _, Below.refl _ _⟩
  case round =>
    obtain ⟨k, rfl, hk, HT, hb⟩ := hrel
    have hz : w.heap.size + 1 ≤ wr.heap.size := by have := hb.size; simp at this; omega
    have hb0 : Below w.heap.size w wr := HA.out.trans (hb.mono (by omega))
    have c8 : wr.cell? ⟨w.heap.size, 8, none⟩ = some (.slice Ad d.length cd) := (hb.cell (p := ⟨w.heap.size, 8, none⟩) (show w.heap.size < w.heap.size + 1 by omega)).trans (by simp [go_sem])
    have hwl : w.heap.size < wr.heap.size := by omega
    by_cases hlt : k < d.length
    · obtain ⟨bk, off, rfl, hbB, hr⟩ := EntsAt.at_ hd hlt
      have hbk : bk < wr.heap.size := by omega
      obtain ⟨p, hp⟩ : ∃ p, d[k]? = some p := ⟨_, List.getElem?_eq_getElem hlt⟩
      obtain ⟨c0, hps, -⟩ := RdTD.iff.1 hr k p hp
      have d0 := (hb0.cell (p := ⟨bk, off + k * 12, none⟩) hbB).trans c0
      have HP := Lib.hid (fields_names hp)
      clear hp c0
      have HN := fun (W : World) => rname_any p.1 W hps
      cases hnm : nameB p.1.data.toList
      · have HF := Lib.hid (fieldsV_bad hlen HP.out (.inl hnm))
        rw [hnm] at HN
        have HNN := Lib.hid HN
        clear HN hnm hd hr
        go_wp2
        refine wp_region_below_lit (by kernel_rfl) (by kernel_rfl) ?_
        repeat (refine WpC.step (fun K hK => ?_); go_simp; first | (refine hK _ ?_; clear hK K) | (apply Exists.intro; refine ⟨fun W hW => ?_, hK _ ?_⟩; (first | (intros; rfl) | (refine ⟨rfl, ?_⟩; rfl) | ((obtain ⟨hc9, hf9⟩ := bcellB hW; go_simp; rfl)) | ((go_at_call 144; refine (HNN.out _).mono ?_; rintro e w9 ⟨rfl, rfl⟩; exact ⟨rfl, hW⟩))); clear hK K))
        refine WpC.nil ?_
        intro wq hwq
        go_wp2
        go_ret
        exact ⟨ret_int (by rw [HU.out, HF.out]; rfl), hb0.trans (hwq.mono (by omega))⟩
      · rw [hnm] at HN
        have HNN := Lib.hid HN
        have HNM := Lib.hid hnm
        clear HN hnm
        by_cases hk0 : k = 0
        · subst hk0
          simp only [Nat.zero_mul, Nat.add_zero] at d0
          have HT2 : Hid (FieldsTo (builtD d) (0 + 1)) := HT.out.succ HP.out HNM.out (fun q h => absurd h (by omega))
          clear hd hr
          go_wp2
          refine wp_region_below_lit (by kernel_rfl) (by kernel_rfl) ?_
          repeat (refine WpC.step (fun K hK => ?_); go_simp; first | (refine hK _ ?_; clear hK K) | (apply Exists.intro; refine ⟨fun W hW => ?_, hK _ ?_⟩; (first | (intros; rfl) | (refine ⟨rfl, ?_⟩; rfl) | ((obtain ⟨hc9, hf9⟩ := bcellB hW; go_simp; rfl)) | ((go_at_call 144; refine (HNN.out _).mono ?_; rintro e w9 ⟨rfl, rfl⟩; exact ⟨rfl, hW⟩))); clear hK K))
          refine WpC.nil ?_
          intro wq hwq
          go_wp2
          refine ⟨⟨0 + 1, rfl, hlt, HT2, hb.trans (hwq.mono (by omega))⟩, ?_⟩
          simp [intOf]; omega
        · obtain ⟨j, rfl⟩ : ∃ j, k = j + 1 := ⟨k - 1, by omega⟩
          obtain ⟨q, hq⟩ : ∃ q, d[j]? = some q := ⟨_, List.getElem?_eq_getElem (by omega)⟩
          obtain ⟨e0, hqs, -⟩ := RdTD.iff.1 hr j q hq
          have dq := (hb0.cell (p := ⟨bk, off + j * 12, none⟩) hbB).trans e0
          clear e0 hd hr
          have hwj : IntKind.i64.wrap (j : Int) = (j : Int) := by rw [IntKind.wrap_i64]; omega
          have hjl : j < d.length := by omega
          have hle' : (Op.bytesLess p.1.toList q.1.toList || p.1.toList == q.1.toList) = leS p.1 q.1 := rfl
          have hq' := fields_names hq
          cases hle : leS p.1 q.1 <;> rw [hle] at hle'
          · have HT2 : Hid (FieldsTo (builtD d) (j + 1 + 1)) := HT.out.succ HP.out HNM.out (fun q' _ h => by have : q' = (q.1, builtV q.2) := Option.some.inj (h.symm.trans hq'); rw [this]; exact hle)
            go_wp2
            refine wp_region_below_lit (by kernel_rfl) (by kernel_rfl) ?_
            repeat (refine WpC.step (fun K hK => ?_); go_simp; first | (refine hK _ ?_; clear hK K) | (apply Exists.intro; refine ⟨fun W hW => ?_, hK _ ?_⟩; (first | (intros; rfl) | (refine ⟨rfl, ?_⟩; rfl) | ((obtain ⟨hc9, hf9⟩ := bcellB hW; go_simp; rfl)) | ((go_at_call 144; refine (HNN.out _).mono ?_; rintro e w9 ⟨rfl, rfl⟩; exact ⟨rfl, hW⟩))); clear hK K))
            refine WpC.nil ?_
            intro wq hwq
            go_wp2
            refine ⟨⟨j + 1 + 1, rfl, hlt, HT2, hb.trans (hwq.mono (by omega))⟩, ?_⟩
            simp [intOf]; omega
          · have HF := Lib.hid (fieldsV_bad hlen HP.out (.inr ⟨(q.1, builtV q.2), by omega, hq', hle⟩))
            go_wp2
            refine wp_region_below_lit (by kernel_rfl) (by kernel_rfl) ?_
            repeat (refine WpC.step (fun K hK => ?_); go_simp; first | (refine hK _ ?_; clear hK K) | (apply Exists.intro; refine ⟨fun W hW => ?_, hK _ ?_⟩; (first | (intros; rfl) | (refine ⟨rfl, ?_⟩; rfl) | ((obtain ⟨hc9, hf9⟩ := bcellB hW; go_simp; rfl)) | ((go_at_call 144; refine (HNN.out _).mono ?_; rintro e w9 ⟨rfl, rfl⟩; exact ⟨rfl, hW⟩))); clear hK K))
            refine WpC.nil ?_
            intro wq hwq
            go_wp2
            go_ret
            exact ⟨ret_int (by rw [HU.out, HF.out]; rfl), hb0.trans (hwq.mono (by omega))⟩
    · obtain rfl : k = d.length := by omega
      have HF := Lib.hid (fieldsV_ok hlen (by rw [builtD_len]; exact HT.out))
      clear hd
      go_wp2
      go_ret
      exact ⟨ret_int (by rw [HU.out, HF.out]; rfl), hb0⟩
set_option maxRecDepth 100000 in
set_option maxHeartbeats 2000000 in
theorem rown_10b (hn : n < 16384) (hdp : deep ≤ 64) (h : nameB c.data.toList = true) (h1 : ¬ v < 1) (h2 : ¬ 1000 < v) (h3 : ¬ 4096 < d.length) (hx : RdT w w.heap.size (.mk 10 b i f t bs r l d c v) x) : Calls Tryz.prog 83 #[termOf x, .int .i64 n, .int .i64 deep] w (fun e w' => e = .returned (.int .i64 (ownV (builtV (.mk 10 b i f t bs r l d c v)) n deep)) ∧ Below w.heap.size w w') := by
  obtain ⟨Ab, cb, Al, cl, Ad, cd, rfl, hk, hi, ht, hbl, ⟨hbn, hbs⟩, hr0, hr1, hc, hv, ⟨hll, hl⟩, ⟨hdl, hd⟩⟩ := hx
  have HU : Hid (ownV (builtV (.mk 10 b i f t bs r l d c v)) n deep = fieldsV (builtD d)) := Lib.hid (by
    have hnf : ¬ (16384 ≤ n ∨ 64 < deep) := by omega
    have e : ownV (.record c v (builtD d)) n deep = fieldsV (builtD d) := by unfold ownV; rw [if_neg hnf]; simp only []; rw [if_neg (by rw [h]; simp), if_neg (by omega)]
    exact e)
  have g1 : ¬ (16384 : Int) ≤ n := by omega
  have g2 : ¬ (64 : Int) < deep := by omega
  have hlen : (builtD d).length ≤ 4096 := by rw [builtD_len]; omega
  have g3 : ¬ (4096 : Int) < d.length := by omega
  have HA : Hid (Below w.heap.size w (w.alloc (.cells #[.int .i64 10, .bool b, .int .i64 i, .float .f64 f, .string t, .slice Ab bs.length cb, .int .u64 r, .slice Al l.length cl, .slice Ad d.length cd, .string c, .int .i64 v] 29))) := Lib.hid ((Below.refl _ _).alloc (Nat.le_refl _) _)
  have HN := fun (W : World) => rname_any c W hc
  rw [h] at HN
  have HNN := Lib.hid HN
  clear HN hbs hl
  unfold termOf
  go_enter Tryz.func83, Tryz.ntmps83
  go_wp2_with fail
  refine (HNN.out _).mono ?_
  rintro e w1 ⟨rfl, rfl⟩
  go_wp2
  go_loopw [7] (fun jx wr => ∃ k : Nat, jx = .int .i64 k ∧ k ≤ d.length ∧ Hid (FieldsTo (builtD d) k) ∧ Below (w.heap.size + 1) (w.alloc (.cells #[.int .i64 10, .bool b, .int .i64 i, .float .f64 f, .string t, .slice Ab bs.length cb, .int .u64 r, .slice Al l.length cl, .slice Ad d.length cd, .string c, .int .i64 v] 29)) wr) (fun jx _ => d.length - (intOf jx).toNat)
  case atStart => exact ⟨0, rfl, by omega, FieldsTo.zero _, Below.refl _ _⟩
  case round =>
    obtain ⟨k, rfl, hk, HT, hb⟩ := hrel
    have hz : w.heap.size + 1 ≤ wr.heap.size := by have := hb.size; simp at this; omega
    have hb0 : Below w.heap.size w wr := HA.out.trans (hb.mono (by omega))
    have c8 : wr.cell? ⟨w.heap.size, 8, none⟩ = some (.slice Ad d.length cd) := (hb.cell (p := ⟨w.heap.size, 8, none⟩) (show w.heap.size < w.heap.size + 1 by omega)).trans (by simp [go_sem])
    have hwl : w.heap.size < wr.heap.size := by omega
    by_cases hlt : k < d.length
    · obtain ⟨bk, off, rfl, hbB, hr⟩ := EntsAt.at_ hd hlt
      have hbk : bk < wr.heap.size := by omega
      obtain ⟨p, hp⟩ : ∃ p, d[k]? = some p := ⟨_, List.getElem?_eq_getElem hlt⟩
      obtain ⟨c0, hps, -⟩ := RdTD.iff.1 hr k p hp
      have d0 := (hb0.cell (p := ⟨bk, off + k * 12, none⟩) hbB).trans c0
      have HP := Lib.hid (fields_names hp)
      clear hp c0
      have HN := fun (W : World) => rname_any p.1 W hps
      cases hnm : nameB p.1.data.toList
      · have HF := Lib.hid (fieldsV_bad hlen HP.out (.inl hnm))
        rw [hnm] at HN
        have HNN := Lib.hid HN
        clear HN hnm hd hr
        go_wp2
        refine wp_region_below_lit (by kernel_rfl) (by kernel_rfl) ?_
        repeat (refine WpC.step (fun K hK => ?_); go_simp; first | (refine hK _ ?_; clear hK K) | (apply Exists.intro; refine ⟨fun W hW => ?_, hK _ ?_⟩; (first | (intros; rfl) | (refine ⟨rfl, ?_⟩; rfl) | ((obtain ⟨hc9, hf9⟩ := bcellB hW; go_simp; rfl)) | ((go_at_call 144; refine (HNN.out _).mono ?_; rintro e w9 ⟨rfl, rfl⟩; exact ⟨rfl, hW⟩))); clear hK K))
        refine WpC.nil ?_
        intro wq hwq
        go_wp2
        go_ret
        exact ⟨ret_int (by rw [HU.out, HF.out]; rfl), hb0.trans (hwq.mono (by omega))⟩
      · rw [hnm] at HN
        have HNN := Lib.hid HN
        have HNM := Lib.hid hnm
        clear HN hnm
        by_cases hk0 : k = 0
        · subst hk0
          simp only [Nat.zero_mul, Nat.add_zero] at d0
          have HT2 : Hid (FieldsTo (builtD d) (0 + 1)) := HT.out.succ HP.out HNM.out (fun q h => absurd h (by omega))
          clear hd hr
          go_wp2
          refine wp_region_below_lit (by kernel_rfl) (by kernel_rfl) ?_
          repeat (refine WpC.step (fun K hK => ?_); go_simp; first | (refine hK _ ?_; clear hK K) | (apply Exists.intro; refine ⟨fun W hW => ?_, hK _ ?_⟩; (first | (intros; rfl) | (refine ⟨rfl, ?_⟩; rfl) | ((obtain ⟨hc9, hf9⟩ := bcellB hW; go_simp; rfl)) | ((go_at_call 144; refine (HNN.out _).mono ?_; rintro e w9 ⟨rfl, rfl⟩; exact ⟨rfl, hW⟩))); clear hK K))
          refine WpC.nil ?_
          intro wq hwq
          go_wp2
          refine ⟨⟨0 + 1, rfl, hlt, HT2, hb.trans (hwq.mono (by omega))⟩, ?_⟩
          simp [intOf]; omega
        · obtain ⟨j, rfl⟩ : ∃ j, k = j + 1 := ⟨k - 1, by omega⟩
          obtain ⟨q, hq⟩ : ∃ q, d[j]? = some q := ⟨_, List.getElem?_eq_getElem (by omega)⟩
          obtain ⟨e0, hqs, -⟩ := RdTD.iff.1 hr j q hq
          have dq := (hb0.cell (p := ⟨bk, off + j * 12, none⟩) hbB).trans e0
          clear e0 hd hr
          have hwj : IntKind.i64.wrap (j : Int) = (j : Int) := by rw [IntKind.wrap_i64]; omega
          have hjl : j < d.length := by omega
          have hle' : (Op.bytesLess p.1.toList q.1.toList || p.1.toList == q.1.toList) = leS p.1 q.1 := rfl
          have hq' := fields_names hq
          cases hle : leS p.1 q.1 <;> rw [hle] at hle'
          · have HT2 : Hid (FieldsTo (builtD d) (j + 1 + 1)) := HT.out.succ HP.out HNM.out (fun q' _ h => by have : q' = (q.1, builtV q.2) := Option.some.inj (h.symm.trans hq'); rw [this]; exact hle)
            go_wp2
            refine wp_region_below_lit (by kernel_rfl) (by kernel_rfl) ?_
            repeat (refine WpC.step (fun K hK => ?_); go_simp; first | (refine hK _ ?_; clear hK K) | (apply Exists.intro; refine ⟨fun W hW => ?_, hK _ ?_⟩; (first | (intros; rfl) | (refine ⟨rfl, ?_⟩; rfl) | ((obtain ⟨hc9, hf9⟩ := bcellB hW; go_simp; rfl)) | ((go_at_call 144; refine (HNN.out _).mono ?_; rintro e w9 ⟨rfl, rfl⟩; exact ⟨rfl, hW⟩))); clear hK K))
            refine WpC.nil ?_
            intro wq hwq
            go_wp2
            refine ⟨⟨j + 1 + 1, rfl, hlt, HT2, hb.trans (hwq.mono (by omega))⟩, ?_⟩
            simp [intOf]; omega
          · have HF := Lib.hid (fieldsV_bad hlen HP.out (.inr ⟨(q.1, builtV q.2), by omega, hq', hle⟩))
            go_wp2
            refine wp_region_below_lit (by kernel_rfl) (by kernel_rfl) ?_
            repeat (refine WpC.step (fun K hK => ?_); go_simp; first | (refine hK _ ?_; clear hK K) | (apply Exists.intro; refine ⟨fun W hW => ?_, hK _ ?_⟩; (first | (intros; rfl) | (refine ⟨rfl, ?_⟩; rfl) | ((obtain ⟨hc9, hf9⟩ := bcellB hW; go_simp; rfl)) | ((go_at_call 144; refine (HNN.out _).mono ?_; rintro e w9 ⟨rfl, rfl⟩; exact ⟨rfl, hW⟩))); clear hK K))
            refine WpC.nil ?_
            intro wq hwq
            go_wp2
            go_ret
            exact ⟨ret_int (by rw [HU.out, HF.out]; rfl), hb0.trans (hwq.mono (by omega))⟩
    · obtain rfl : k = d.length := by omega
      have HF := Lib.hid (fieldsV_ok hlen (by rw [builtD_len]; exact HT.out))
      clear hd
      go_wp2
      go_ret
      exact ⟨ret_int (by rw [HU.out, HF.out]; rfl), hb0⟩
end
theorem rown_any (T : Tm) (x : List Value) (n deep : Nat) (w : World) (hx : RdT w w.heap.size T x) : Calls Tryz.prog 83 #[termOf x, .int .i64 n, .int .i64 deep] w (fun e w' => e = .returned (.int .i64 (ownV (builtV T) n deep)) ∧ Below w.heap.size w w') := by
  obtain ⟨k, b, i, f, t, bs, r, l, d, c, v⟩ := T
  by_cases h11 : k = 11
  · subst h11; exact rown_11 b i f t bs r l d c v x n deep w hx
  by_cases h1 : k < 1
  · exact rown_low b i f t bs r l d c v x n deep w k h1 hx
  by_cases h2 : 10 < k
  · exact rown_high b i f t bs r l d c v x n deep w k h2 h11 hx
  by_cases hf : 16384 ≤ n ∨ 64 < deep
  · exact rown_far b i f t bs r l d c v x n deep w k (by omega) (by omega) hf hx
  have hn : n < 16384 := by omega
  have hdp : deep ≤ 64 := by omega
  have hk : k = 1 ∨ k = 2 ∨ k = 3 ∨ k = 4 ∨ k = 5 ∨ k = 6 ∨ k = 7 ∨ k = 8 ∨ k = 9 ∨ k = 10 := by omega
  rcases hk with rfl | rfl | rfl | rfl | rfl | rfl | rfl | rfl | rfl | rfl
  · exact rown_1 b i f t bs r l d c v x n deep w hn hdp hx
  · exact rown_2 b i f t bs r l d c v x n deep w hn hdp hx
  · exact rown_3 b i f t bs r l d c v x n deep w hn hdp hx
  · exact rown_4 b i f t bs r l d c v x n deep w hn hdp hx
  · by_cases h : 65536 < t.size
    · exact rown_5a b i f t bs r l d c v x n deep w hn hdp h hx
    · exact rown_5b b i f t bs r l d c v x n deep w hn hdp h hx
  · by_cases h : 65536 < bs.length
    · exact rown_6a b i f t bs r l d c v x n deep w hn hdp h hx
    · exact rown_6b b i f t bs r l d c v x n deep w hn hdp h hx
  · exact rown_7 b i f t bs r l d c v x n deep w hn hdp hx
  · by_cases h : 4096 < l.length
    · exact rown_8a b i f t bs r l d c v x n deep w hn hdp h hx
    · exact rown_8b b i f t bs r l d c v x n deep w hn hdp h hx
  · by_cases h : 4096 < d.length
    · exact rown_9a b i f t bs r l d c v x n deep w hn hdp h hx
    · exact rown_9b b i f t bs r l d c v x n deep w hn hdp h hx
  · cases h : nameB c.data.toList
    · exact rown_10n b i f t bs r l d c v x n deep w hn hdp h hx
    · by_cases h2 : v < 1
      · exact rown_10v b i f t bs r l d c v x n deep w hn hdp h h2 hx
      · by_cases h3 : 1000 < v
        · exact rown_10w b i f t bs r l d c v x n deep w hn hdp h h3 hx
        · by_cases h4 : 4096 < d.length
          · exact rown_10a b i f t bs r l d c v x n deep w hn hdp h h2 h3 h4 hx
          · exact rown_10b b i f t bs r l d c v x n deep w hn hdp h h2 h3 h4 hx
end Go.Proofs.YtobpkelblpdajaaGreatDoor
