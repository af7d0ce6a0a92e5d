/- Walks: text.parsed, Parse, First. -/
import Derived.Test.YtobpkelblpdajaaGreatDoorTX44
import Derived.Test.YtobpkelblpdajaaGreatDoorTX21
import Derived.OwnWalk
set_option linter.unusedVariables false
set_option linter.unusedSimpArgs false
set_option linter.unusedSectionVars false
namespace Go.Proofs.YtobpkelblpdajaaGreatDoor
open Go Go.RowKit
theorem three_set {w : World} {b : Nat} {u0 u1 u2 : Value} (x y z : Value) (h0 : w.cell? ⟨b, 0, none⟩ = some u0) (h1 : w.cell? ⟨b + 1, 0, none⟩ = some u1) (h2 : w.cell? ⟨b + 1 + 1, 0, none⟩ = some u2) :
    (((w.setCell ⟨b, 0, none⟩ x).setCell ⟨b + 1, 0, none⟩ y).setCell ⟨b + 1 + 1, 0, none⟩ z).cell? ⟨b, 0, none⟩ = some x ∧ (((w.setCell ⟨b, 0, none⟩ x).setCell ⟨b + 1, 0, none⟩ y).setCell ⟨b + 1 + 1, 0, none⟩ z).cell? ⟨b + 1, 0, none⟩ = some y ∧ (((w.setCell ⟨b, 0, none⟩ x).setCell ⟨b + 1, 0, none⟩ y).setCell ⟨b + 1 + 1, 0, none⟩ z).cell? ⟨b + 1 + 1, 0, none⟩ = some z ∧ Below b w (((w.setCell ⟨b, 0, none⟩ x).setCell ⟨b + 1, 0, none⟩ y).setCell ⟨b + 1 + 1, 0, none⟩ z) := by
  refine ⟨?_, ?_, ?_, ?_⟩
  · rw [World.cell?_setCell_other _ _ _ _ (by intro h; injection h with h; omega), World.cell?_setCell_other _ _ _ _ (by intro h; injection h with h; omega)]
    exact World.cell?_setCell_same _ _ _ h0
  · rw [World.cell?_setCell_other _ _ _ _ (by intro h; injection h with h; omega)]
    exact World.cell?_setCell_same _ _ _ ((World.cell?_setCell_other _ _ _ _ (by intro h; injection h with h; omega)).trans h1)
  · exact World.cell?_setCell_same _ _ _ ((World.cell?_setCell_other _ _ _ _ (by intro h; injection h with h; omega)).trans ((World.cell?_setCell_other _ _ _ _ (by intro h; injection h with h; omega)).trans h2))
  · exact (((Below.refl b w).setCell (p := ⟨b, 0, none⟩) (Nat.le_refl _) _).setCell (p := ⟨b + 1, 0, none⟩) (Nat.le_succ _) _).setCell (p := ⟨b + 1 + 1, 0, none⟩) (by show b ≤ b + 1 + 1; omega) _
theorem three_other {w : World} {b : Nat} {p : Addr} (x y z : Value) (h0 : p.block ≠ b) (h1 : p.block ≠ b + 1) (h2 : p.block ≠ b + 1 + 1) : (((w.setCell ⟨b, 0, none⟩ x).setCell ⟨b + 1, 0, none⟩ y).setCell ⟨b + 1 + 1, 0, none⟩ z).cell? p = w.cell? p := by
  rw [World.cell?_setCell_other _ _ _ _ (by intro h; exact h2 (by rw [← h])), World.cell?_setCell_other _ _ _ _ (by intro h; exact h1 (by rw [← h])), World.cell?_setCell_other _ _ _ _ (by intro h; exact h0 (by rw [← h]))]
theorem parsed_leaves {R : Ending → World → Prop} {tmps : Array Value} {b : Nat} {W : World} {x y z : Value} (h4 : tmps[4]?.getD undef = .pointer (some ⟨b, 0, none⟩)) (h5 : tmps[5]?.getD undef = .pointer (some ⟨b + 1, 0, none⟩)) (h6 : tmps[6]?.getD undef = .pointer (some ⟨b + 1 + 1, 0, none⟩))
    (c0 : W.cell? ⟨b, 0, none⟩ = some x) (c1 : W.cell? ⟨b + 1, 0, none⟩ = some y) (c2 : W.cell? ⟨b + 1 + 1, 0, none⟩ = some z) (hR : R (.returned (.tuple #[x, y, z])) W) : Leaves Tryz.prog Tryz.f77 tmps R [] .returning W := by
  simp [Leaves, settle, results, Tryz.results77, go_sem, h4, h5, h6, c0, c1, c2]
  exact hR
theorem parsed_leaves2 {R : Ending → World → Prop} {tmps : Array Value} {b : Nat} {W : World} {x y z u : Value} (h4 : tmps[4]?.getD undef = .pointer (some ⟨b, 0, none⟩)) (h5 : tmps[5]?.getD undef = .pointer (some ⟨b + 1, 0, none⟩)) (h6 : tmps[6]?.getD undef = .pointer (some ⟨b + 1 + 1, 0, none⟩))
    (c0 : W.cell? ⟨b, 0, none⟩ = some x) (c1 : W.cell? ⟨b + 1, 0, none⟩ = some y) (c2 : W.cell? ⟨b + 1 + 1, 0, none⟩ = some z) (hR : R (.returned (.tuple #[x, y, z])) W) : Leaves Tryz.prog Tryz.f77 tmps R [] (settle (.panicking [{ v := u, recovered := true }])) W := by
  simp [Leaves, settle, results, Tryz.results77, go_sem, h4, h5, h6, c0, c1, c2]
  exact hR
/- What the parser leans on, and where it lies. -/
structure EnvP (w : World) (B : Nat) : Prop where
  env : Env w B
  errs : Errs w
  e1 : 7 < B
  e2 : 8 < B
theorem EnvP.below {w w' : World} {B : Nat} (h : EnvP w B) (hb : Below B w w') : EnvP w' B := by
  refine ⟨h.env.below hb, ?_, h.e1, h.e2⟩
  obtain ⟨⟨a, h1, h2⟩, ⟨b, h3, h4⟩⟩ := h.errs
  exact ⟨⟨a, (hb.cell (p := ⟨7, 0, none⟩) h.e1).trans h1, h2⟩, ⟨b, (hb.cell (p := ⟨8, 0, none⟩) h.e2).trans h3, h4⟩⟩
theorem EnvP.of {w : World} (h : Env w w.heap.size) (h2 : Errs w) : EnvP w w.heap.size := by
  obtain ⟨⟨a, h3, h4⟩, ⟨b, h5, h6⟩⟩ := h2
  exact ⟨h, ⟨⟨a, h3, h4⟩, ⟨b, h5, h6⟩⟩, World.block_lt_of_cell? _ _ h3, World.block_lt_of_cell? _ _ h5⟩
theorem EnvP.pen {w : World} {B bp : Nat} (h : EnvP w B) (hb : B ≤ bp) : Penv w bp :=
  ⟨h.env.esc, h.errs, h.env.pow, h.env.deb, by have := h.env.b1; omega, by have := h.e1; omega, by have := h.e2; omega, by have := h.env.b2; omega, by have := h.env.b3; omega⟩
def ParsePost (r : Rd1) (w : World) (e : Ending) (w' : World) : Prop := match r with
  | .error (a, why) => e = .returned (.tuple #[.nilIface, .int .i64 a, .int .i64 why]) ∧ Below w.heap.size w w'
  | .ok (x, q, _) => ∃ v, e = .returned (.tuple #[v, .int .i64 q, .int .i64 0]) ∧ RdS w' (New w w') x v ∧ Below w.heap.size w w'
set_option maxRecDepth 100000 in
set_option maxHeartbeats 4000000 in
theorem parsed_any (s : ByteArray) (F : FuncId) (cap : Array Value) (hF : ∀ args (W : World), (callFunc F args).run Tryz.prog W = .ok (.enter F args) W) (r : Rd1) (w : World) (he : EnvP w w.heap.size)
    (hdo : ∀ (bp : Nat) (W : World), w.heap.size ≤ bp → PaAt W bp s 0 0 → Penv W bp → Below w.heap.size w W → Calls Tryz.prog F (#[.pointer (some ⟨bp, 0, none⟩)] ++ cap) W (VPost bp s r W)) :
    Calls Tryz.prog 77 #[.string s, .func (.func F) #[] cap] w (ParsePost r w) := by
  have hB0 : Below w.heap.size w ((((w.alloc (.cells #[.nilIface] 20)).alloc (.cells #[.int .i64 0] 3)).alloc (.cells #[.int .i64 0] 31)).alloc (.cells #[.string s, .int .i64 0, .int .i64 0] 169)) := ((((Below.refl _ _).alloc (Nat.le_refl _) _).alloc (by simp) _).alloc (by simp; omega) _).alloc (by simp; omega) _
  have HSz : Hid (((((w.alloc (.cells #[.nilIface] 20)).alloc (.cells #[.int .i64 0] 3)).alloc (.cells #[.int .i64 0] 31)).alloc (.cells #[.string s, .int .i64 0, .int .i64 0] 169)).heap.size = w.heap.size + 4) := Lib.hid (by simp)
  have hpa : PaAt ((((w.alloc (.cells #[.nilIface] 20)).alloc (.cells #[.int .i64 0] 3)).alloc (.cells #[.int .i64 0] 31)).alloc (.cells #[.string s, .int .i64 0, .int .i64 0] 169)) (w.heap.size + 1 + 1 + 1) s 0 0 := by
    have h9 := heap_alloc_new (((w.alloc (.cells #[.nilIface] 20)).alloc (.cells #[.int .i64 0] 3)).alloc (.cells #[.int .i64 0] 31)) (.cells #[.string s, .int .i64 0, .int .i64 0] 169)
    rw [show (((w.alloc (.cells #[.nilIface] 20)).alloc (.cells #[.int .i64 0] 3)).alloc (.cells #[.int .i64 0] 31)).heap.size = w.heap.size + 1 + 1 + 1 by simp] at h9
    exact h9
  have HDO := Lib.hid (hdo (w.heap.size + 1 + 1 + 1) _ (by omega) hpa ((he.below hB0).pen (by omega)) hB0)
  have HB := Lib.hid hB0
  have hmf : ∀ (fn : Fn) (first cap : Array Value) (w : World), (Instr.makeFunc fn first cap).run Tryz.prog w = .ok (.func fn first cap) w := fun _ _ _ _ => rfl
  have hC := hF
  clear hdo hpa hB0 he hF
  go_enter_defers Tryz.func77, Tryz.ntmps77
  go_wp2_with fail
  refine HDO.out.mono ?_
  intro e w1 h1
  have qq : Pside (w.heap.size + 1 + 1 + 1) ((((w.alloc (.cells #[.nilIface] 20)).alloc (.cells #[.int .i64 0] 3)).alloc (.cells #[.int .i64 0] 31)).alloc (.cells #[.string s, .int .i64 0, .int .i64 0] 169)) w1 → Below w.heap.size w w1 ∧ w.heap.size + 4 ≤ w1.heap.size ∧ (w1.cell? ⟨w.heap.size, 0, none⟩ = some .nilIface ∧ w1.cell? ⟨w.heap.size + 1, 0, none⟩ = some (.int .i64 0) ∧ w1.cell? ⟨w.heap.size + 1 + 1, 0, none⟩ = some (.int .i64 0)) ∧ (w1.frozen? ⟨w.heap.size, 0, none⟩ = false ∧ w1.frozen? ⟨w.heap.size + 1, 0, none⟩ = false ∧ w1.frozen? ⟨w.heap.size + 1 + 1, 0, none⟩ = false) := fun hp => by
    have hz := hp.size
    rw [HSz.out] at hz
    have hb1 : Below w.heap.size w w1 := HB.out.trans ⟨hp.os, hp.tape, hp.output, hp.size, fun k hk => hp.block k (by rw [HSz.out]; omega) (by omega)⟩
    have hfr : ∀ k, k < w.heap.size + 1 + 1 + 1 → w1.frozen? ⟨k, 0, none⟩ = ((((w.alloc (.cells #[.nilIface] 20)).alloc (.cells #[.int .i64 0] 3)).alloc (.cells #[.int .i64 0] 31)).alloc (.cells #[.string s, .int .i64 0, .int .i64 0] 169)).frozen? ⟨k, 0, none⟩ := fun k hk => by
      unfold World.frozen?
      simp only
      rw [hp.block k (by rw [HSz.out]; omega) (by omega)]
    refine ⟨hb1, hz, ⟨?_, ?_, ?_⟩, ?_, ?_, ?_⟩
    · exact (hp.cell (p := ⟨w.heap.size, 0, none⟩) (by rw [HSz.out]; show w.heap.size < _; omega) (by show w.heap.size ≠ _; omega)).trans (by simp [go_sem])
    · exact (hp.cell (p := ⟨w.heap.size + 1, 0, none⟩) (by rw [HSz.out]; show w.heap.size + 1 < _; omega) (by show w.heap.size + 1 ≠ _; omega)).trans (by simp [go_sem])
    · exact (hp.cell (p := ⟨w.heap.size + 1 + 1, 0, none⟩) (by rw [HSz.out]; show w.heap.size + 1 + 1 < _; omega) (by show w.heap.size + 1 + 1 ≠ _; omega)).trans (by simp [go_sem])
    · exact (hfr _ (by omega)).trans (by simp [go_sem])
    · exact (hfr _ (by omega)).trans (by simp [go_sem])
    · exact (hfr _ (by omega)).trans (by simp [go_sem])
  cases r with
  | error z =>
    obtain ⟨a, why⟩ := z
    obtain ⟨rfl, hp⟩ := h1
    obtain ⟨hb1, hz, ⟨q0, q1, q2⟩, f0, f1, f2⟩ := qq hp
    clear qq HDO
    refine leaves_cons (f := 133) (args := #[.pointer (some ⟨w.heap.size, 0, none⟩), .pointer (some ⟨w.heap.size + 1, 0, none⟩), .pointer (some ⟨w.heap.size + 1 + 1, 0, none⟩)]) (by simp) (by simp [go_sem]) ((pcatch_fault w.heap.size a why w1 _ _ _ (by omega) q0 f0 q1 f1 q2 f2).mono ?_)
    rintro e u' w4 ⟨rfl, rfl, c0, c1, c2, hb4⟩
    refine parsed_leaves2 rfl rfl rfl c0 c1 c2 ?_
    exact ⟨rfl, hb1.trans hb4⟩
  | ok z =>
    obtain ⟨x, q, n⟩ := z
    obtain ⟨⟨v, rfl, hv⟩, hpa, hp⟩ := h1
    obtain ⟨hb1, hz, ⟨q0, q1, q2⟩, f0, f1, f2⟩ := qq hp
    have d1 := hpa.c1
    have hlt1 := hpa.lt
    have l0 : w.heap.size < w1.heap.size := by omega
    have l1 : w.heap.size + 1 < w1.heap.size := by omega
    have l2 : w.heap.size + 1 + 1 < w1.heap.size := by omega
    have l3 : w.heap.size + 1 + 1 + 1 < w1.heap.size := by omega
    have hvo := hv.one
    clear qq HDO hpa
    rcases hv.face with rfl | ⟨ty, yy, rfl⟩
    · go_wp2
      go_region
      have T := three_set (w := w1.setCell ⟨w.heap.size, 0, none⟩ (.nilIface)) (.nilIface) (.int .i64 q) (.int .i64 0) (World.cell?_setCell_same _ _ _ q0) ((World.cell?_setCell_other _ _ _ _ (by intro h; injection h with h; omega)).trans q1) ((World.cell?_setCell_other _ _ _ _ (by intro h; injection h with h; omega)).trans q2)
      have hbT : Below w.heap.size w1 (w1.setCell ⟨w.heap.size, 0, none⟩ (.nilIface)) := (Below.refl _ _).setCell (p := ⟨w.heap.size, 0, none⟩) (Nat.le_refl _) _
      have hot : ∀ p : Addr, p.block ≠ w.heap.size → p.block ≠ w.heap.size + 1 → p.block ≠ w.heap.size + 1 + 1 → ((((w1.setCell ⟨w.heap.size, 0, none⟩ (.nilIface)).setCell ⟨w.heap.size, 0, none⟩ (.nilIface)).setCell ⟨w.heap.size + 1, 0, none⟩ (.int .i64 q)).setCell ⟨w.heap.size + 1 + 1, 0, none⟩ (.int .i64 0)).cell? p = w1.cell? p := fun p h0 h1 h2 => (three_other _ _ _ h0 h1 h2).trans (World.cell?_setCell_other _ _ _ _ (by intro h; exact h0 (by rw [← h])))
      have hzT : ((((w1.setCell ⟨w.heap.size, 0, none⟩ (.nilIface)).setCell ⟨w.heap.size, 0, none⟩ (.nilIface)).setCell ⟨w.heap.size + 1, 0, none⟩ (.int .i64 q)).setCell ⟨w.heap.size + 1 + 1, 0, none⟩ (.int .i64 0)).heap.size = w1.heap.size := by simp
      generalize (((w1.setCell ⟨w.heap.size, 0, none⟩ (.nilIface)).setCell ⟨w.heap.size, 0, none⟩ (.nilIface)).setCell ⟨w.heap.size + 1, 0, none⟩ (.int .i64 q)).setCell ⟨w.heap.size + 1 + 1, 0, none⟩ (.int .i64 0) = W at *
      go_wp2
      refine leaves_cons (f := 133) (args := #[.pointer (some ⟨w.heap.size, 0, none⟩), .pointer (some ⟨w.heap.size + 1, 0, none⟩), .pointer (some ⟨w.heap.size + 1 + 1, 0, none⟩)]) (by simp) (by simp [go_sem]) ((pcatch_idle ⟨w.heap.size, 0, none⟩ ⟨w.heap.size + 1, 0, none⟩ ⟨w.heap.size + 1 + 1, 0, none⟩ _).mono ?_)
      rintro e u' w4 ⟨rfl, rfl, rfl⟩
      refine parsed_leaves rfl rfl rfl T.1 T.2.1 T.2.2.1 ?_
      have hu : RdS W.drew _ x (.nilIface) := RdS.keep (w' := W.drew) (fun p hp => by have h1 := hp.1; rw [HSz.out] at h1; exact hot p (by omega) (by omega) (by omega)) x (.nilIface) hv
      exact ⟨_, rfl, RdS.more (fun b hb => ⟨by have h1 := hb.1; rw [HSz.out] at h1; omega, by have h2 := hb.2; show b < W.heap.size; rw [hzT]; exact h2⟩) _ _ hu, (hb1.trans (hbT.trans T.2.2.2)).drew⟩
    · go_wp2
      go_region
      have T := three_set (w := w1.setCell ⟨w.heap.size, 0, none⟩ (.iface ty yy)) (.iface ty yy) (.int .i64 q) (.int .i64 0) (World.cell?_setCell_same _ _ _ q0) ((World.cell?_setCell_other _ _ _ _ (by intro h; injection h with h; omega)).trans q1) ((World.cell?_setCell_other _ _ _ _ (by intro h; injection h with h; omega)).trans q2)
      have hbT : Below w.heap.size w1 (w1.setCell ⟨w.heap.size, 0, none⟩ (.iface ty yy)) := (Below.refl _ _).setCell (p := ⟨w.heap.size, 0, none⟩) (Nat.le_refl _) _
      have hot : ∀ p : Addr, p.block ≠ w.heap.size → p.block ≠ w.heap.size + 1 → p.block ≠ w.heap.size + 1 + 1 → ((((w1.setCell ⟨w.heap.size, 0, none⟩ (.iface ty yy)).setCell ⟨w.heap.size, 0, none⟩ (.iface ty yy)).setCell ⟨w.heap.size + 1, 0, none⟩ (.int .i64 q)).setCell ⟨w.heap.size + 1 + 1, 0, none⟩ (.int .i64 0)).cell? p = w1.cell? p := fun p h0 h1 h2 => (three_other _ _ _ h0 h1 h2).trans (World.cell?_setCell_other _ _ _ _ (by intro h; exact h0 (by rw [← h])))
      have hzT : ((((w1.setCell ⟨w.heap.size, 0, none⟩ (.iface ty yy)).setCell ⟨w.heap.size, 0, none⟩ (.iface ty yy)).setCell ⟨w.heap.size + 1, 0, none⟩ (.int .i64 q)).setCell ⟨w.heap.size + 1 + 1, 0, none⟩ (.int .i64 0)).heap.size = w1.heap.size := by simp
      generalize (((w1.setCell ⟨w.heap.size, 0, none⟩ (.iface ty yy)).setCell ⟨w.heap.size, 0, none⟩ (.iface ty yy)).setCell ⟨w.heap.size + 1, 0, none⟩ (.int .i64 q)).setCell ⟨w.heap.size + 1 + 1, 0, none⟩ (.int .i64 0) = W at *
      go_wp2
      refine leaves_cons (f := 133) (args := #[.pointer (some ⟨w.heap.size, 0, none⟩), .pointer (some ⟨w.heap.size + 1, 0, none⟩), .pointer (some ⟨w.heap.size + 1 + 1, 0, none⟩)]) (by simp) (by simp [go_sem]) ((pcatch_idle ⟨w.heap.size, 0, none⟩ ⟨w.heap.size + 1, 0, none⟩ ⟨w.heap.size + 1 + 1, 0, none⟩ _).mono ?_)
      rintro e u' w4 ⟨rfl, rfl, rfl⟩
      refine parsed_leaves rfl rfl rfl T.1 T.2.1 T.2.2.1 ?_
      have hu : RdS W.drew _ x (.iface ty yy) := RdS.keep (w' := W.drew) (fun p hp => by have h1 := hp.1; rw [HSz.out] at h1; exact hot p (by omega) (by omega) (by omega)) x (.iface ty yy) hv
      exact ⟨_, rfl, RdS.more (fun b hb => ⟨by have h1 := hb.1; rw [HSz.out] at h1; omega, by have h2 := hb.2; show b < W.heap.size; rw [hzT]; exact h2⟩) _ _ hu, (hb1.trans (hbT.trans T.2.2.2)).drew⟩
set_option maxRecDepth 100000 in
set_option maxHeartbeats 1000000 in
theorem Parse_any (s : ByteArray) (hs : s.size ≤ 140737488351232) (r : Rd1) (hr : PvalC s 1 0 0 r) (hq : ∀ x q m, r = .ok (x, q, m) → q ≤ s.size) (w : World) (he : EnvP w w.heap.size) : Calls Tryz.prog 41 #[.string s] w (ParsePost (wholeR s r) w) := by
  have hb : Below w.heap.size w (w.alloc (.cells #[.string s] 9)) := (Below.refl _ _).alloc (Nat.le_refl _) _
  have hz : (w.alloc (.cells #[.string s] 9)).heap.size = w.heap.size + 1 := by simp
  have hc : (w.alloc (.cells #[.string s] 9)).cell? ⟨w.heap.size, 0, none⟩ = some (.string s) := by rw [Lib.cell_of_heap (heap_alloc_new w _)]; rfl
  have hE : EnvP (w.alloc (.cells #[.string s] 9)) (w.alloc (.cells #[.string s] 9)).heap.size := by
    have h1 := he.below hb
    exact ⟨Env.mk h1.env.esc h1.env.pow h1.env.deb (by have := h1.env.b1; omega) (by have := h1.env.b2; omega) (by have := h1.env.b3; omega), h1.errs, by have := h1.e1; omega, by have := h1.e2; omega⟩
  have HP := Lib.hid (parsed_any s 78 #[.pointer (some ⟨w.heap.size, 0, none⟩)] (enters_of Tryz.func78 (by kernel_rfl) rfl) (wholeR s r) _ hE (fun bp W hbp hpa hpe hbw => Parse1_any s hs r hr hq bp w.heap.size W hpa hpe ((hbw.cell (p := ⟨w.heap.size, 0, none⟩) (by rw [hz]; exact Nat.lt_succ_self _)).trans hc) (by omega)))
  have HB := Lib.hid hb
  have hmf : ∀ (fn : Fn) (first cap : Array Value) (w : World), (Instr.makeFunc fn first cap).run Tryz.prog w = .ok (.func fn first cap) w := fun _ _ _ _ => rfl
  generalize wholeR s r = R at *
  clear hr hq he hE hb hc
  go_enter Tryz.func41, Tryz.ntmps41
  go_wp2_with fail
  refine HP.out.mono ?_
  intro e w1 h1
  cases R with
  | error z =>
    obtain ⟨a, why⟩ := z
    obtain ⟨rfl, h2⟩ := h1
    go_wp2_with fail
    go_ret3
    exact ⟨rfl, HB.out.trans (h2.mono (by rw [hz]; omega))⟩
  | ok z =>
    obtain ⟨x, q, n⟩ := z
    obtain ⟨v, rfl, hv, h2⟩ := h1
    have ho := hv.one
    go_wp2_with fail
    go_ret3
    exact ⟨v, rfl, RdS.more (fun b hb => ⟨by have := hb.1; rw [hz] at this; omega, hb.2⟩) _ _ hv, HB.out.trans (h2.mono (by rw [hz]; omega))⟩
end Go.Proofs.YtobpkelblpdajaaGreatDoor
