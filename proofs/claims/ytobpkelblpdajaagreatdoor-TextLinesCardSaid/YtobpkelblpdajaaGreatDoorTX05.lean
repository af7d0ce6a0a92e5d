/- Walks: the parts of a value. -/
import Derived.Test.YtobpkelblpdajaaGreatDoorTX04
set_option linter.unusedVariables false
set_option linter.unusedSimpArgs false
set_option linter.unusedSectionVars false
namespace Go.Proofs.YtobpkelblpdajaaGreatDoor
open Go Go.RowKit
attribute [local go_sem] ta_no_bool ta_yes_bool ta_nil_bool ta_no_int64 ta_yes_int64 ta_nil_int64 ta_no_flt ta_yes_flt ta_nil_flt ta_no_str ta_yes_str ta_nil_str ta_no_byt ta_yes_byt ta_nil_byt ta_no_ref ta_yes_ref ta_nil_ref ta_no_lst ta_yes_lst ta_nil_lst ta_no_dct ta_yes_dct ta_nil_dct ta_no_rec ta_yes_rec ta_nil_rec
structure Cnt where
  n : Nat
  deep : Nat
  why : Nat
noncomputable def stepV (x : V) (d : Nat) (s : Cnt) (K : Cnt → Bool × Cnt) : Bool × Cnt :=
  if ownV x s.n d = 0 then K ⟨s.n + 1, max s.deep d, 0⟩ else (false, { s with why := ownV x s.n d })
def thenV (r : Bool × Cnt) (K : Cnt → Bool × Cnt) : Bool × Cnt := if r.1 = true then K r.2 else (false, r.2)
mutual
noncomputable def partV : V → Nat → Cnt → Bool × Cnt
  | .nil, d, s => stepV .nil d s fun t => (true, t)
  | .bool b, d, s => stepV (.bool b) d s fun t => (true, t)
  | .int n, d, s => stepV (.int n) d s fun t => (true, t)
  | .flt n, d, s => stepV (.flt n) d s fun t => (true, t)
  | .text n, d, s => stepV (.text n) d s fun t => (true, t)
  | .bytes n, d, s => stepV (.bytes n) d s fun t => (true, t)
  | .ref n, d, s => stepV (.ref n) d s fun t => (true, t)
  | .list l, d, s => stepV (.list l) d s (partL l (d + 1))
  | .dict l, d, s => stepV (.dict l) d s (partD l (d + 1))
  | .record c v l, d, s => stepV (.record c v l) d s (partD l (d + 1))
  | .nothing, d, s => stepV .nothing d s fun t => (true, t)
  | .alien, d, s => stepV .alien d s fun t => (true, t)
noncomputable def partL : List V → Nat → Cnt → Bool × Cnt
  | [], _, s => (true, s)
  | x :: r, d, s => thenV (partV x d s) (partL r d)
noncomputable def partD : List (ByteArray × V) → Nat → Cnt → Bool × Cnt
  | [], _, s => (true, s)
  | (_, x) :: r, d, s => thenV (partV x d s) (partD r d)
end
def Hold (w : World) (bc k : Nat) (v : Value) : Prop := w.cell? ⟨bc, k, none⟩ = some v ∧ w.frozen? ⟨bc, k, none⟩ = false
def CntAt (w : World) (bc : Nat) (s : Cnt) : Prop := Hold w bc 0 (.int .i64 s.n) ∧ Hold w bc 1 (.int .i64 s.deep) ∧ Hold w bc 2 (.int .i64 s.why)
theorem CntAt.below {w w' : World} {bc : Nat} {s : Cnt} {B : Nat} (h : CntAt w bc s) (hb : Below B w w') (hl : bc < B) : CntAt w' bc s := by
  have hc := fun k => hb.cell (p := ⟨bc, k, none⟩) hl
  have hf := fun k => hb.frozen (p := ⟨bc, k, none⟩) hl
  obtain ⟨⟨a1, a2⟩, ⟨b1, b2⟩, ⟨c1, c2⟩⟩ := h
  exact ⟨⟨(hc 0).trans a1, (hf 0).trans a2⟩, ⟨(hc 1).trans b1, (hf 1).trans b2⟩, ⟨(hc 2).trans c1, (hf 2).trans c2⟩⟩
def PartPost (B : Nat) (w : World) (bc : Nat) (r : Bool × Cnt) (e : Ending) (w' : World) : Prop := e = .returned (.bool r.1) ∧ Below B w w' ∧ CntAt w' bc r.2
def PartC (x : V) : Prop := ∀ (v : Value) (d : Nat) (s : Cnt) (w : World) (B bc : Nat), Rd w B x v → B ≤ bc → bc < w.heap.size → d ≤ 65 → CntAt w bc s →
  Calls Tryz.prog 85 #[.pointer (some ⟨bc, 0, none⟩), v, .int .i64 d] w (PartPost B w bc (partV x d s))
theorem thenV_yes {r : Bool × Cnt} {K : Cnt → Bool × Cnt} (h : r.1 = true) : thenV r K = K r.2 := by unfold thenV; rw [if_pos h]
theorem thenV_no {r : Bool × Cnt} {K : Cnt → Bool × Cnt} (h : r.1 = false) : thenV r K = (false, r.2) := by unfold thenV; rw [h]; rfl
set_option maxRecDepth 100000 in
set_option maxHeartbeats 1000000 in
theorem all_any (l : List (ByteArray × V)) (ih : ∀ p ∈ l, PartC p.2) (A : Option Addr) (c d : Nat) (s : Cnt) (w : World) (B bc : Nat) (hD : DictAt w B A l) (hl : l.length ≤ 1099511627776) (hB : B ≤ bc) (hbc : bc < w.heap.size) (hd : d ≤ 64) (hs : CntAt w bc s) :
    Calls Tryz.prog 146 #[.pointer (some ⟨bc, 0, none⟩), .slice A l.length c, .int .i64 d] w (PartPost B w bc (partD l (d + 1) s)) := by
  go_enter Tryz.func146, Tryz.ntmps146
  go_wp2
  go_loopw [11] (fun i wr => ∃ (k : Nat) (t : Cnt), i = .int .i64 k ∧ k ≤ l.length ∧ Hid (partD l (d + 1) s = partD (l.drop k) (d + 1) t) ∧ Below B w wr ∧ CntAt wr bc t) (fun i _ => l.length - (intOf i).toNat)
  case atStart => exact ⟨0, s, rfl, by omega, Lib.hid (by simp), Below.refl _ _, hs⟩
  case round =>
    obtain ⟨k, t, rfl, hk, HT, hb, ht⟩ := hrel
    by_cases hlt : k < l.length
    · obtain ⟨b, off, rfl, hbB, hr⟩ := hD.at_ hlt
      have hz := hb.size
      obtain ⟨p, hp⟩ : ∃ p, l[k]? = some p := ⟨_, List.getElem?_eq_getElem hlt⟩
      obtain ⟨c0, hps, v, c1, hv⟩ := RdD.iff.1 hr k p hp
      have d0 := (hb.cell (p := ⟨b, off + k * 2, none⟩) hbB).trans c0
      have d1 := (hb.cell (p := ⟨b, off + k * 2 + 1, none⟩) hbB).trans c1
      have hst := fun (W : World) (a : Addr) (m : Mode) => run_store Tryz.prog W a v m hv.one
      have hdr : l.drop k = p :: l.drop (k + 1) := by rw [List.drop_eq_getElem_cons hlt]; rw [List.getElem?_eq_getElem hlt] at hp; injection hp with hp; rw [hp]
      have HU : Hid (partD l (d + 1) s = thenV (partV p.2 (d + 1) t) (partD (l.drop (k + 1)) (d + 1))) := Lib.hid (by rw [HT.out, hdr]; rfl)
      have HC := Lib.hid (fun (W : World) (hW : Below B w W) (hbW : bc < W.heap.size) (htW : CntAt W bc t) => ih p (List.mem_of_getElem? hp) v (d + 1) t W B bc (hv.below hW) hB hbW (by omega) htW)
      clear hp c0 c1 hv hdr HT ih hD hr hs
      have hbk : Below wr.heap.size wr (wr.alloc (.cells #[.string p.1, v] 39)) := (Below.refl _ _).alloc (Nat.le_refl _) _
      have hb2 : Below B w (wr.alloc (.cells #[.string p.1, v] 39)) := hb.alloc (by omega) _
      have ht2 := ht.below hbk (by omega)
      generalize partV p.2 (d + 1) t = r at HC HU
      cases hq : r.1
      · have HF : Hid (partD l (d + 1) s = (false, r.2)) := Lib.hid (by rw [HU.out, thenV_no hq])
        go_wp2_with fail
        refine (HC.out _ hb2 (by go_simp; omega) ht2).mono ?_
        rintro e w1 ⟨rfl, hb1, hc1⟩
        go_wp2
        go_ret
        exact ⟨ret_bool (by rw [HF.out]), hb2.trans hb1, by rw [HF.out]; exact hc1⟩
      · have HF : Hid (partD l (d + 1) s = partD (l.drop (k + 1)) (d + 1) r.2) := Lib.hid (by rw [HU.out, thenV_yes hq])
        go_wp2_with fail
        refine (HC.out _ hb2 (by go_simp; omega) ht2).mono ?_
        rintro e w1 ⟨rfl, hb1, hc1⟩
        go_wp2
        refine ⟨⟨k + 1, r.2, rfl, hlt, HF, hb2.trans hb1, hc1⟩, ?_⟩
        simp [intOf]; omega
    · obtain rfl : k = l.length := by omega
      have HF : Hid (partD l (d + 1) s = (true, t)) := Lib.hid (by rw [HT.out]; simp [partD])
      go_wp2
      go_ret
      exact ⟨ret_bool (by rw [HF.out]), hb, by rw [HF.out]; exact ht⟩
theorem ownV_zero {x : V} {n d : Nat} (h : ownV x n d = 0) : n < 16384 ∧ d ≤ 64 := by
  by_cases hf : 16384 ≤ n ∨ 64 < d
  · rw [ownV_far hf] at h; cases x <;> simp [farV] at h
  · omega
theorem stepV_yes {x : V} {d : Nat} {s : Cnt} {K : Cnt → Bool × Cnt} (h : ownV x s.n d = 0) : stepV x d s K = K ⟨s.n + 1, max s.deep d, 0⟩ := by unfold stepV; rw [if_pos h]
theorem stepV_no {x : V} {d : Nat} {s : Cnt} {K : Cnt → Bool × Cnt} (h : ¬ ownV x s.n d = 0) : stepV x d s K = (false, { s with why := ownV x s.n d }) := by unfold stepV; rw [if_neg h]
theorem CntAt.why {w : World} {bc : Nat} {s : Cnt} (h : CntAt w bc s) (y : Nat) : CntAt (w.setCell ⟨bc, 2, none⟩ (.int .i64 y)) bc { s with why := y } := by
  obtain ⟨⟨a1, a2⟩, ⟨b1, b2⟩, ⟨c1, c2⟩⟩ := h
  refine ⟨⟨?_, ?_⟩, ⟨?_, ?_⟩, ⟨?_, ?_⟩⟩ <;> simp [go_sem, *]
theorem CntAt.three {w : World} {bc : Nat} {s : Cnt} (h : CntAt w bc s) (y n m : Nat) : CntAt (((w.setCell ⟨bc, 2, none⟩ (.int .i64 y)).setCell ⟨bc, 0, none⟩ (.int .i64 n)).setCell ⟨bc, 1, none⟩ (.int .i64 m)) bc ⟨n, m, y⟩ := by
  obtain ⟨⟨a1, a2⟩, ⟨b1, b2⟩, ⟨c1, c2⟩⟩ := h
  refine ⟨⟨?_, ?_⟩, ⟨?_, ?_⟩, ⟨?_, ?_⟩⟩ <;> simp [go_sem, *]
theorem below_three {B : Nat} {w w1 : World} {bc : Nat} (h : Below B w w1) (hB : B ≤ bc) (x y z : Value) : Below B w (((w1.setCell ⟨bc, 2, none⟩ x).setCell ⟨bc, 0, none⟩ y).setCell ⟨bc, 1, none⟩ z) :=
  ((h.setCell (p := ⟨bc, 2, none⟩) hB x).setCell (p := ⟨bc, 0, none⟩) hB y).setCell (p := ⟨bc, 1, none⟩) hB z
set_option maxRecDepth 100000 in
set_option maxHeartbeats 1000000 in
theorem part_nil : PartC (.nil) := by
  intro v d s w B bc hx hB hbc hd hs
  have hO := own_any (.nil) v s.n d w (Rd.more (by omega) _ _ hx)
  obtain rfl := hx
  have HP : Hid (partV (.nil) d s = stepV (.nil) d s (fun t => (true, t))) := Lib.hid rfl
  have hs0 := Lib.hid hs
  obtain ⟨⟨a1, a2⟩, ⟨b1, b2⟩, ⟨c1, c2⟩⟩ := hs
  by_cases hq : ownV (.nil) s.n d = 0
  · obtain ⟨hn1, hd1⟩ := ownV_zero hq
    have HF : Hid (partV (.nil) d s = (fun t => (true, t)) ⟨s.n + 1, max s.deep d, 0⟩) := Lib.hid (by rw [HP.out, stepV_yes hq])
    rw [hq] at hO
    replace hO := Lib.hid hO
    clear hq HP
    have hm : (s.deep < d ∧ Hid (max s.deep d = d)) ∨ (¬ s.deep < d ∧ Hid (max s.deep d = s.deep)) := by
      by_cases h : s.deep < d
      · exact .inl ⟨h, Lib.hid (by omega)⟩
      · exact .inr ⟨h, Lib.hid (by omega)⟩
    rcases hm with ⟨hm, HM⟩ | ⟨hm, HM⟩ <;> rw [HM.out] at HF
    all_goals
      go_enter Tryz.func85, Tryz.ntmps85
      go_wp2_with fail
      refine hO.out.mono ?_
      rintro e w1 ⟨rfl, hb1⟩
      have hs1 := hs0.out.below hb1 hbc
      have hb2 := hb1.mono (B' := B) (by omega)
      have hs2 := Lib.hid hs1
      obtain ⟨⟨a1, a2⟩, ⟨b1, b2⟩, ⟨c1, c2⟩⟩ := hs1
      go_wp2_with fail
      go_ret
      exact ⟨ret_bool (by rw [HF.out]), below_three hb2 hB _ _ _, by rw [HF.out]; exact hs2.out.three _ _ _⟩
  · have HF : Hid (partV (.nil) d s = (false, { s with why := ownV (.nil) s.n d })) := Lib.hid (by rw [HP.out, stepV_no hq])
    clear HP
    generalize ownV (.nil) s.n d = q at *
    have hq' : ((q : Int) == 0) = false := by rw [beq_eq_false_iff_ne]; omega
    replace hO := Lib.hid hO
    go_enter Tryz.func85, Tryz.ntmps85
    go_wp2_with fail
    refine hO.out.mono ?_
    rintro e w1 ⟨rfl, hb1⟩
    have hs1 := hs0.out.below hb1 hbc
    have hb2 := hb1.mono (B' := B) (by omega)
    have hs2 := Lib.hid hs1
    obtain ⟨⟨a1, a2⟩, ⟨b1, b2⟩, ⟨c1, c2⟩⟩ := hs1
    go_wp2_with fail
    go_ret
    exact ⟨ret_bool (by rw [HF.out]), hb2.setCell (p := ⟨bc, 2, none⟩) hB _, by rw [HF.out]; exact hs2.out.why q⟩
set_option maxRecDepth 100000 in
set_option maxHeartbeats 1000000 in
theorem part_bool (b : Bool) : PartC (.bool b) := by
  intro v d s w B bc hx hB hbc hd hs
  have hO := own_any (.bool b) v s.n d w (Rd.more (by omega) _ _ hx)
  obtain rfl := hx
  have HP : Hid (partV (.bool b) d s = stepV (.bool b) d s (fun t => (true, t))) := Lib.hid rfl
  have hs0 := Lib.hid hs
  obtain ⟨⟨a1, a2⟩, ⟨b1, b2⟩, ⟨c1, c2⟩⟩ := hs
  by_cases hq : ownV (.bool b) s.n d = 0
  · obtain ⟨hn1, hd1⟩ := ownV_zero hq
    have HF : Hid (partV (.bool b) d s = (fun t => (true, t)) ⟨s.n + 1, max s.deep d, 0⟩) := Lib.hid (by rw [HP.out, stepV_yes hq])
    rw [hq] at hO
    replace hO := Lib.hid hO
    clear hq HP
    have hm : (s.deep < d ∧ Hid (max s.deep d = d)) ∨ (¬ s.deep < d ∧ Hid (max s.deep d = s.deep)) := by
      by_cases h : s.deep < d
      · exact .inl ⟨h, Lib.hid (by omega)⟩
      · exact .inr ⟨h, Lib.hid (by omega)⟩
    rcases hm with ⟨hm, HM⟩ | ⟨hm, HM⟩ <;> rw [HM.out] at HF
    all_goals
      go_enter Tryz.func85, Tryz.ntmps85
      go_wp2_with fail
      refine hO.out.mono ?_
      rintro e w1 ⟨rfl, hb1⟩
      have hs1 := hs0.out.below hb1 hbc
      have hb2 := hb1.mono (B' := B) (by omega)
      have hs2 := Lib.hid hs1
      obtain ⟨⟨a1, a2⟩, ⟨b1, b2⟩, ⟨c1, c2⟩⟩ := hs1
      go_wp2_with fail
      go_ret
      exact ⟨ret_bool (by rw [HF.out]), below_three hb2 hB _ _ _, by rw [HF.out]; exact hs2.out.three _ _ _⟩
  · have HF : Hid (partV (.bool b) d s = (false, { s with why := ownV (.bool b) s.n d })) := Lib.hid (by rw [HP.out, stepV_no hq])
    clear HP
    generalize ownV (.bool b) s.n d = q at *
    have hq' : ((q : Int) == 0) = false := by rw [beq_eq_false_iff_ne]; omega
    replace hO := Lib.hid hO
    go_enter Tryz.func85, Tryz.ntmps85
    go_wp2_with fail
    refine hO.out.mono ?_
    rintro e w1 ⟨rfl, hb1⟩
    have hs1 := hs0.out.below hb1 hbc
    have hb2 := hb1.mono (B' := B) (by omega)
    have hs2 := Lib.hid hs1
    obtain ⟨⟨a1, a2⟩, ⟨b1, b2⟩, ⟨c1, c2⟩⟩ := hs1
    go_wp2_with fail
    go_ret
    exact ⟨ret_bool (by rw [HF.out]), hb2.setCell (p := ⟨bc, 2, none⟩) hB _, by rw [HF.out]; exact hs2.out.why q⟩
set_option maxRecDepth 100000 in
set_option maxHeartbeats 1000000 in
theorem part_int (i : Int) : PartC (.int i) := by
  intro v d s w B bc hx hB hbc hd hs
  have hO := own_any (.int i) v s.n d w (Rd.more (by omega) _ _ hx)
  obtain ⟨rfl, _⟩ := hx
  have HP : Hid (partV (.int i) d s = stepV (.int i) d s (fun t => (true, t))) := Lib.hid rfl
  have hs0 := Lib.hid hs
  obtain ⟨⟨a1, a2⟩, ⟨b1, b2⟩, ⟨c1, c2⟩⟩ := hs
  by_cases hq : ownV (.int i) s.n d = 0
  · obtain ⟨hn1, hd1⟩ := ownV_zero hq
    have HF : Hid (partV (.int i) d s = (fun t => (true, t)) ⟨s.n + 1, max s.deep d, 0⟩) := Lib.hid (by rw [HP.out, stepV_yes hq])
    rw [hq] at hO
    replace hO := Lib.hid hO
    clear hq HP
    have hm : (s.deep < d ∧ Hid (max s.deep d = d)) ∨ (¬ s.deep < d ∧ Hid (max s.deep d = s.deep)) := by
      by_cases h : s.deep < d
      · exact .inl ⟨h, Lib.hid (by omega)⟩
      · exact .inr ⟨h, Lib.hid (by omega)⟩
    rcases hm with ⟨hm, HM⟩ | ⟨hm, HM⟩ <;> rw [HM.out] at HF
    all_goals
      go_enter Tryz.func85, Tryz.ntmps85
      go_wp2_with fail
      refine hO.out.mono ?_
      rintro e w1 ⟨rfl, hb1⟩
      have hs1 := hs0.out.below hb1 hbc
      have hb2 := hb1.mono (B' := B) (by omega)
      have hs2 := Lib.hid hs1
      obtain ⟨⟨a1, a2⟩, ⟨b1, b2⟩, ⟨c1, c2⟩⟩ := hs1
      go_wp2_with fail
      go_ret
      exact ⟨ret_bool (by rw [HF.out]), below_three hb2 hB _ _ _, by rw [HF.out]; exact hs2.out.three _ _ _⟩
  · have HF : Hid (partV (.int i) d s = (false, { s with why := ownV (.int i) s.n d })) := Lib.hid (by rw [HP.out, stepV_no hq])
    clear HP
    generalize ownV (.int i) s.n d = q at *
    have hq' : ((q : Int) == 0) = false := by rw [beq_eq_false_iff_ne]; omega
    replace hO := Lib.hid hO
    go_enter Tryz.func85, Tryz.ntmps85
    go_wp2_with fail
    refine hO.out.mono ?_
    rintro e w1 ⟨rfl, hb1⟩
    have hs1 := hs0.out.below hb1 hbc
    have hb2 := hb1.mono (B' := B) (by omega)
    have hs2 := Lib.hid hs1
    obtain ⟨⟨a1, a2⟩, ⟨b1, b2⟩, ⟨c1, c2⟩⟩ := hs1
    go_wp2_with fail
    go_ret
    exact ⟨ret_bool (by rw [HF.out]), hb2.setCell (p := ⟨bc, 2, none⟩) hB _, by rw [HF.out]; exact hs2.out.why q⟩
set_option maxRecDepth 100000 in
set_option maxHeartbeats 1000000 in
theorem part_flt (i : Nat) : PartC (.flt i) := by
  intro v d s w B bc hx hB hbc hd hs
  have hO := own_any (.flt i) v s.n d w (Rd.more (by omega) _ _ hx)
  obtain rfl := hx
  have HP : Hid (partV (.flt i) d s = stepV (.flt i) d s (fun t => (true, t))) := Lib.hid rfl
  have hs0 := Lib.hid hs
  obtain ⟨⟨a1, a2⟩, ⟨b1, b2⟩, ⟨c1, c2⟩⟩ := hs
  by_cases hq : ownV (.flt i) s.n d = 0
  · obtain ⟨hn1, hd1⟩ := ownV_zero hq
    have HF : Hid (partV (.flt i) d s = (fun t => (true, t)) ⟨s.n + 1, max s.deep d, 0⟩) := Lib.hid (by rw [HP.out, stepV_yes hq])
    rw [hq] at hO
    replace hO := Lib.hid hO
    clear hq HP
    have hm : (s.deep < d ∧ Hid (max s.deep d = d)) ∨ (¬ s.deep < d ∧ Hid (max s.deep d = s.deep)) := by
      by_cases h : s.deep < d
      · exact .inl ⟨h, Lib.hid (by omega)⟩
      · exact .inr ⟨h, Lib.hid (by omega)⟩
    rcases hm with ⟨hm, HM⟩ | ⟨hm, HM⟩ <;> rw [HM.out] at HF
    all_goals
      go_enter Tryz.func85, Tryz.ntmps85
      go_wp2_with fail
      refine hO.out.mono ?_
      rintro e w1 ⟨rfl, hb1⟩
      have hs1 := hs0.out.below hb1 hbc
      have hb2 := hb1.mono (B' := B) (by omega)
      have hs2 := Lib.hid hs1
      obtain ⟨⟨a1, a2⟩, ⟨b1, b2⟩, ⟨c1, c2⟩⟩ := hs1
      go_wp2_with fail
      go_ret
      exact ⟨ret_bool (by rw [HF.out]), below_three hb2 hB _ _ _, by rw [HF.out]; exact hs2.out.three _ _ _⟩
  · have HF : Hid (partV (.flt i) d s = (false, { s with why := ownV (.flt i) s.n d })) := Lib.hid (by rw [HP.out, stepV_no hq])
    clear HP
    generalize ownV (.flt i) s.n d = q at *
    have hq' : ((q : Int) == 0) = false := by rw [beq_eq_false_iff_ne]; omega
    replace hO := Lib.hid hO
    go_enter Tryz.func85, Tryz.ntmps85
    go_wp2_with fail
    refine hO.out.mono ?_
    rintro e w1 ⟨rfl, hb1⟩
    have hs1 := hs0.out.below hb1 hbc
    have hb2 := hb1.mono (B' := B) (by omega)
    have hs2 := Lib.hid hs1
    obtain ⟨⟨a1, a2⟩, ⟨b1, b2⟩, ⟨c1, c2⟩⟩ := hs1
    go_wp2_with fail
    go_ret
    exact ⟨ret_bool (by rw [HF.out]), hb2.setCell (p := ⟨bc, 2, none⟩) hB _, by rw [HF.out]; exact hs2.out.why q⟩
set_option maxRecDepth 100000 in
set_option maxHeartbeats 1000000 in
theorem part_text (t : ByteArray) : PartC (.text t) := by
  intro v d s w B bc hx hB hbc hd hs
  have hO := own_any (.text t) v s.n d w (Rd.more (by omega) _ _ hx)
  obtain ⟨rfl, _⟩ := hx
  have HP : Hid (partV (.text t) d s = stepV (.text t) d s (fun t => (true, t))) := Lib.hid rfl
  have hs0 := Lib.hid hs
  obtain ⟨⟨a1, a2⟩, ⟨b1, b2⟩, ⟨c1, c2⟩⟩ := hs
  by_cases hq : ownV (.text t) s.n d = 0
  · obtain ⟨hn1, hd1⟩ := ownV_zero hq
    have HF : Hid (partV (.text t) d s = (fun t => (true, t)) ⟨s.n + 1, max s.deep d, 0⟩) := Lib.hid (by rw [HP.out, stepV_yes hq])
    rw [hq] at hO
    replace hO := Lib.hid hO
    clear hq HP
    have hm : (s.deep < d ∧ Hid (max s.deep d = d)) ∨ (¬ s.deep < d ∧ Hid (max s.deep d = s.deep)) := by
      by_cases h : s.deep < d
      · exact .inl ⟨h, Lib.hid (by omega)⟩
      · exact .inr ⟨h, Lib.hid (by omega)⟩
    rcases hm with ⟨hm, HM⟩ | ⟨hm, HM⟩ <;> rw [HM.out] at HF
    all_goals
      go_enter Tryz.func85, Tryz.ntmps85
      go_wp2_with fail
      refine hO.out.mono ?_
      rintro e w1 ⟨rfl, hb1⟩
      have hs1 := hs0.out.below hb1 hbc
      have hb2 := hb1.mono (B' := B) (by omega)
      have hs2 := Lib.hid hs1
      obtain ⟨⟨a1, a2⟩, ⟨b1, b2⟩, ⟨c1, c2⟩⟩ := hs1
      go_wp2_with fail
      go_ret
      exact ⟨ret_bool (by rw [HF.out]), below_three hb2 hB _ _ _, by rw [HF.out]; exact hs2.out.three _ _ _⟩
  · have HF : Hid (partV (.text t) d s = (false, { s with why := ownV (.text t) s.n d })) := Lib.hid (by rw [HP.out, stepV_no hq])
    clear HP
    generalize ownV (.text t) s.n d = q at *
    have hq' : ((q : Int) == 0) = false := by rw [beq_eq_false_iff_ne]; omega
    replace hO := Lib.hid hO
    go_enter Tryz.func85, Tryz.ntmps85
    go_wp2_with fail
    refine hO.out.mono ?_
    rintro e w1 ⟨rfl, hb1⟩
    have hs1 := hs0.out.below hb1 hbc
    have hb2 := hb1.mono (B' := B) (by omega)
    have hs2 := Lib.hid hs1
    obtain ⟨⟨a1, a2⟩, ⟨b1, b2⟩, ⟨c1, c2⟩⟩ := hs1
    go_wp2_with fail
    go_ret
    exact ⟨ret_bool (by rw [HF.out]), hb2.setCell (p := ⟨bc, 2, none⟩) hB _, by rw [HF.out]; exact hs2.out.why q⟩
set_option maxRecDepth 100000 in
set_option maxHeartbeats 1000000 in
theorem part_bytes (l : List UInt8) : PartC (.bytes l) := by
  intro v d s w B bc hx hB hbc hd hs
  have hO := own_any (.bytes l) v s.n d w (Rd.more (by omega) _ _ hx)
  obtain ⟨A, c, rfl, _⟩ := hx
  have HP : Hid (partV (.bytes l) d s = stepV (.bytes l) d s (fun t => (true, t))) := Lib.hid rfl
  have hs0 := Lib.hid hs
  obtain ⟨⟨a1, a2⟩, ⟨b1, b2⟩, ⟨c1, c2⟩⟩ := hs
  by_cases hq : ownV (.bytes l) s.n d = 0
  · obtain ⟨hn1, hd1⟩ := ownV_zero hq
    have HF : Hid (partV (.bytes l) d s = (fun t => (true, t)) ⟨s.n + 1, max s.deep d, 0⟩) := Lib.hid (by rw [HP.out, stepV_yes hq])
    rw [hq] at hO
    replace hO := Lib.hid hO
    clear hq HP
    have hm : (s.deep < d ∧ Hid (max s.deep d = d)) ∨ (¬ s.deep < d ∧ Hid (max s.deep d = s.deep)) := by
      by_cases h : s.deep < d
      · exact .inl ⟨h, Lib.hid (by omega)⟩
      · exact .inr ⟨h, Lib.hid (by omega)⟩
    rcases hm with ⟨hm, HM⟩ | ⟨hm, HM⟩ <;> rw [HM.out] at HF
    all_goals
      go_enter Tryz.func85, Tryz.ntmps85
      go_wp2_with fail
      refine hO.out.mono ?_
      rintro e w1 ⟨rfl, hb1⟩
      have hs1 := hs0.out.below hb1 hbc
      have hb2 := hb1.mono (B' := B) (by omega)
      have hs2 := Lib.hid hs1
      obtain ⟨⟨a1, a2⟩, ⟨b1, b2⟩, ⟨c1, c2⟩⟩ := hs1
      go_wp2_with fail
      go_ret
      exact ⟨ret_bool (by rw [HF.out]), below_three hb2 hB _ _ _, by rw [HF.out]; exact hs2.out.three _ _ _⟩
  · have HF : Hid (partV (.bytes l) d s = (false, { s with why := ownV (.bytes l) s.n d })) := Lib.hid (by rw [HP.out, stepV_no hq])
    clear HP
    generalize ownV (.bytes l) s.n d = q at *
    have hq' : ((q : Int) == 0) = false := by rw [beq_eq_false_iff_ne]; omega
    replace hO := Lib.hid hO
    go_enter Tryz.func85, Tryz.ntmps85
    go_wp2_with fail
    refine hO.out.mono ?_
    rintro e w1 ⟨rfl, hb1⟩
    have hs1 := hs0.out.below hb1 hbc
    have hb2 := hb1.mono (B' := B) (by omega)
    have hs2 := Lib.hid hs1
    obtain ⟨⟨a1, a2⟩, ⟨b1, b2⟩, ⟨c1, c2⟩⟩ := hs1
    go_wp2_with fail
    go_ret
    exact ⟨ret_bool (by rw [HF.out]), hb2.setCell (p := ⟨bc, 2, none⟩) hB _, by rw [HF.out]; exact hs2.out.why q⟩
set_option maxRecDepth 100000 in
set_option maxHeartbeats 1000000 in
theorem part_ref (i : Int) : PartC (.ref i) := by
  intro v d s w B bc hx hB hbc hd hs
  have hO := own_any (.ref i) v s.n d w (Rd.more (by omega) _ _ hx)
  obtain ⟨rfl, _⟩ := hx
  have HP : Hid (partV (.ref i) d s = stepV (.ref i) d s (fun t => (true, t))) := Lib.hid rfl
  have hs0 := Lib.hid hs
  obtain ⟨⟨a1, a2⟩, ⟨b1, b2⟩, ⟨c1, c2⟩⟩ := hs
  by_cases hq : ownV (.ref i) s.n d = 0
  · obtain ⟨hn1, hd1⟩ := ownV_zero hq
    have HF : Hid (partV (.ref i) d s = (fun t => (true, t)) ⟨s.n + 1, max s.deep d, 0⟩) := Lib.hid (by rw [HP.out, stepV_yes hq])
    rw [hq] at hO
    replace hO := Lib.hid hO
    clear hq HP
    have hm : (s.deep < d ∧ Hid (max s.deep d = d)) ∨ (¬ s.deep < d ∧ Hid (max s.deep d = s.deep)) := by
      by_cases h : s.deep < d
      · exact .inl ⟨h, Lib.hid (by omega)⟩
      · exact .inr ⟨h, Lib.hid (by omega)⟩
    rcases hm with ⟨hm, HM⟩ | ⟨hm, HM⟩ <;> rw [HM.out] at HF
    all_goals
      go_enter Tryz.func85, Tryz.ntmps85
      go_wp2_with fail
      refine hO.out.mono ?_
      rintro e w1 ⟨rfl, hb1⟩
      have hs1 := hs0.out.below hb1 hbc
      have hb2 := hb1.mono (B' := B) (by omega)
      have hs2 := Lib.hid hs1
      obtain ⟨⟨a1, a2⟩, ⟨b1, b2⟩, ⟨c1, c2⟩⟩ := hs1
      go_wp2_with fail
      go_ret
      exact ⟨ret_bool (by rw [HF.out]), below_three hb2 hB _ _ _, by rw [HF.out]; exact hs2.out.three _ _ _⟩
  · have HF : Hid (partV (.ref i) d s = (false, { s with why := ownV (.ref i) s.n d })) := Lib.hid (by rw [HP.out, stepV_no hq])
    clear HP
    generalize ownV (.ref i) s.n d = q at *
    have hq' : ((q : Int) == 0) = false := by rw [beq_eq_false_iff_ne]; omega
    replace hO := Lib.hid hO
    go_enter Tryz.func85, Tryz.ntmps85
    go_wp2_with fail
    refine hO.out.mono ?_
    rintro e w1 ⟨rfl, hb1⟩
    have hs1 := hs0.out.below hb1 hbc
    have hb2 := hb1.mono (B' := B) (by omega)
    have hs2 := Lib.hid hs1
    obtain ⟨⟨a1, a2⟩, ⟨b1, b2⟩, ⟨c1, c2⟩⟩ := hs1
    go_wp2_with fail
    go_ret
    exact ⟨ret_bool (by rw [HF.out]), hb2.setCell (p := ⟨bc, 2, none⟩) hB _, by rw [HF.out]; exact hs2.out.why q⟩
set_option maxRecDepth 100000 in
set_option maxHeartbeats 1000000 in
theorem part_nothing : PartC (.nothing) := by
  intro v d s w B bc hx hB hbc hd hs
  have hO := own_any (.nothing) v s.n d w (Rd.more (by omega) _ _ hx)
  obtain rfl := hx
  have HP : Hid (partV (.nothing) d s = stepV (.nothing) d s (fun t => (true, t))) := Lib.hid rfl
  have hs0 := Lib.hid hs
  obtain ⟨⟨a1, a2⟩, ⟨b1, b2⟩, ⟨c1, c2⟩⟩ := hs
  by_cases hq : ownV (.nothing) s.n d = 0
  · exact absurd hq (by unfold ownV; split <;> simp)
  · have HF : Hid (partV (.nothing) d s = (false, { s with why := ownV (.nothing) s.n d })) := Lib.hid (by rw [HP.out, stepV_no hq])
    clear HP
    generalize ownV (.nothing) s.n d = q at *
    have hq' : ((q : Int) == 0) = false := by rw [beq_eq_false_iff_ne]; omega
    replace hO := Lib.hid hO
    go_enter Tryz.func85, Tryz.ntmps85
    go_wp2_with fail
    refine hO.out.mono ?_
    rintro e w1 ⟨rfl, hb1⟩
    have hs1 := hs0.out.below hb1 hbc
    have hb2 := hb1.mono (B' := B) (by omega)
    have hs2 := Lib.hid hs1
    obtain ⟨⟨a1, a2⟩, ⟨b1, b2⟩, ⟨c1, c2⟩⟩ := hs1
    go_wp2_with fail
    go_ret
    exact ⟨ret_bool (by rw [HF.out]), hb2.setCell (p := ⟨bc, 2, none⟩) hB _, by rw [HF.out]; exact hs2.out.why q⟩
set_option maxRecDepth 100000 in
set_option maxHeartbeats 1000000 in
theorem part_alien : PartC (.alien) := by
  intro v d s w B bc hx hB hbc hd hs
  have hO := own_any (.alien) v s.n d w (Rd.more (by omega) _ _ hx)
  obtain ⟨ta, xa, rfl, hta⟩ := hx
  obtain ⟨m1, m2, m3, m4, m5, m6, m7, m8, m9⟩ := alienT_ne hta
  clear hta
  have HP : Hid (partV (.alien) d s = stepV (.alien) d s (fun t => (true, t))) := Lib.hid rfl
  have hs0 := Lib.hid hs
  obtain ⟨⟨a1, a2⟩, ⟨b1, b2⟩, ⟨c1, c2⟩⟩ := hs
  by_cases hq : ownV (.alien) s.n d = 0
  · obtain ⟨hn1, hd1⟩ := ownV_zero hq
    have HF : Hid (partV (.alien) d s = (fun t => (true, t)) ⟨s.n + 1, max s.deep d, 0⟩) := Lib.hid (by rw [HP.out, stepV_yes hq])
    rw [hq] at hO
    replace hO := Lib.hid hO
    clear hq HP
    have hm : (s.deep < d ∧ Hid (max s.deep d = d)) ∨ (¬ s.deep < d ∧ Hid (max s.deep d = s.deep)) := by
      by_cases h : s.deep < d
      · exact .inl ⟨h, Lib.hid (by omega)⟩
      · exact .inr ⟨h, Lib.hid (by omega)⟩
    rcases hm with ⟨hm, HM⟩ | ⟨hm, HM⟩ <;> rw [HM.out] at HF
    all_goals
      go_enter Tryz.func85, Tryz.ntmps85
      go_wp2_with fail
      refine hO.out.mono ?_
      rintro e w1 ⟨rfl, hb1⟩
      have hs1 := hs0.out.below hb1 hbc
      have hb2 := hb1.mono (B' := B) (by omega)
      have hs2 := Lib.hid hs1
      obtain ⟨⟨a1, a2⟩, ⟨b1, b2⟩, ⟨c1, c2⟩⟩ := hs1
      go_wp2_with fail
      go_ret
      exact ⟨ret_bool (by rw [HF.out]), below_three hb2 hB _ _ _, by rw [HF.out]; exact hs2.out.three _ _ _⟩
  · have HF : Hid (partV (.alien) d s = (false, { s with why := ownV (.alien) s.n d })) := Lib.hid (by rw [HP.out, stepV_no hq])
    clear HP
    generalize ownV (.alien) s.n d = q at *
    have hq' : ((q : Int) == 0) = false := by rw [beq_eq_false_iff_ne]; omega
    replace hO := Lib.hid hO
    go_enter Tryz.func85, Tryz.ntmps85
    go_wp2_with fail
    refine hO.out.mono ?_
    rintro e w1 ⟨rfl, hb1⟩
    have hs1 := hs0.out.below hb1 hbc
    have hb2 := hb1.mono (B' := B) (by omega)
    have hs2 := Lib.hid hs1
    obtain ⟨⟨a1, a2⟩, ⟨b1, b2⟩, ⟨c1, c2⟩⟩ := hs1
    go_wp2_with fail
    go_ret
    exact ⟨ret_bool (by rw [HF.out]), hb2.setCell (p := ⟨bc, 2, none⟩) hB _, by rw [HF.out]; exact hs2.out.why q⟩
set_option maxRecDepth 100000 in
set_option maxHeartbeats 1000000 in
theorem part_list (l : List V) (ih : ∀ x ∈ l, PartC x) : PartC (.list l) := by
  intro v d s w B bc hx hB hbc hd hs
  have hO := own_any (.list l) v s.n d w (Rd.more (by omega) _ _ hx)
  obtain ⟨A, c, rfl, hl, -, hL⟩ := hx
  have HP : Hid (partV (.list l) d s = stepV (.list l) d s (partL l (d + 1))) := Lib.hid rfl
  have hs0 := Lib.hid hs
  obtain ⟨⟨a1, a2⟩, ⟨b1, b2⟩, ⟨c1, c2⟩⟩ := hs
  by_cases hq : ownV (.list l) s.n d = 0
  · obtain ⟨hn1, hd1⟩ := ownV_zero hq
    have HF : Hid (partV (.list l) d s = (partL l (d + 1)) ⟨s.n + 1, max s.deep d, 0⟩) := Lib.hid (by rw [HP.out, stepV_yes hq])
    rw [hq] at hO
    replace hO := Lib.hid hO
    clear hq HP
    have hm : (s.deep < d ∧ Hid (max s.deep d = d)) ∨ (¬ s.deep < d ∧ Hid (max s.deep d = s.deep)) := by
      by_cases h : s.deep < d
      · exact .inl ⟨h, Lib.hid (by omega)⟩
      · exact .inr ⟨h, Lib.hid (by omega)⟩
    rcases hm with ⟨hm, HM⟩ | ⟨hm, HM⟩ <;> rw [HM.out] at HF
    all_goals
      go_enter Tryz.func85, Tryz.ntmps85
      go_wp2_with fail
      refine hO.out.mono ?_
      rintro e w1 ⟨rfl, hb1⟩
      have hs1 := hs0.out.below hb1 hbc
      have hb2 := hb1.mono (B' := B) (by omega)
      have hs2 := Lib.hid hs1
      obtain ⟨⟨a1, a2⟩, ⟨b1, b2⟩, ⟨c1, c2⟩⟩ := hs1
      replace ih := Lib.hid ih
      go_wp2_with fail
      go_loopw [49] (fun i wr => ∃ (k : Nat) (t : Cnt), i = .int .i64 k ∧ k ≤ l.length ∧ Hid (partV (.list l) d s = partL (l.drop k) (d + 1) t) ∧ Below B w wr ∧ CntAt wr bc t) (fun i _ => l.length - (intOf i).toNat)
      case atStart => exact ⟨0, _, rfl, by omega, Lib.hid (by rw [HF.out]; rfl), below_three hb2 hB _ _ _, hs2.out.three _ _ _⟩
      case round =>
        obtain ⟨k, t, rfl, hk, HT, hb, ht⟩ := hrel
        by_cases hlt : k < l.length
        · obtain ⟨b, off, rfl, hbB, hr⟩ : ∃ b off, A = some ⟨b, off, none⟩ ∧ b < B ∧ RdL w (fun b => b < B) b off l := by
            rcases hL with h | h
            · subst h; simp at hlt
            · exact h
          have hz := hb.size
          obtain ⟨y, hp⟩ : ∃ y, l[k]? = some y := ⟨_, List.getElem?_eq_getElem hlt⟩
          obtain ⟨v, c1, hv⟩ := RdL.iff.1 hr k y hp
          have d1 := (hb.cell (p := ⟨b, off + k, none⟩) hbB).trans c1
          have hdr : l.drop k = y :: l.drop (k + 1) := by rw [List.drop_eq_getElem_cons hlt]; rw [List.getElem?_eq_getElem hlt] at hp; injection hp with hp; rw [hp]
          have HU : Hid (partV (.list l) d s = thenV (partV y (d + 1) t) (partL (l.drop (k + 1)) (d + 1))) := Lib.hid (by rw [HT.out, hdr]; rfl)
          have HC := Lib.hid (ih.out y (List.mem_of_getElem? hp) v (d + 1) t wr B bc (hv.below hb) hB (by omega) (by omega) ht)
          have hvo := hv.one
          clear hp c1 hv hdr HT hL hr ht
          generalize partV y (d + 1) t = r at HC HU
          cases hq : r.1
          · have HG : Hid (partV (.list l) d s = (false, r.2)) := Lib.hid (by rw [HU.out, thenV_no hq])
            go_wp2_with fail
            refine HC.out.mono ?_
            rintro e w2 ⟨rfl, hb3, hc1⟩
            go_wp2
            go_ret
            exact ⟨ret_bool (by rw [HG.out]), hb.trans hb3, by rw [HG.out]; exact hc1⟩
          · have HG : Hid (partV (.list l) d s = partL (l.drop (k + 1)) (d + 1) r.2) := Lib.hid (by rw [HU.out, thenV_yes hq])
            go_wp2_with fail
            refine HC.out.mono ?_
            rintro e w2 ⟨rfl, hb3, hc1⟩
            go_wp2
            refine ⟨⟨k + 1, r.2, rfl, hlt, HG, hb.trans hb3, hc1⟩, ?_⟩
            simp [intOf]; omega
        · obtain rfl : k = l.length := by omega
          have HG : Hid (partV (.list l) d s = (true, t)) := Lib.hid (by rw [HT.out]; simp [partL])
          go_wp2
          go_ret
          exact ⟨ret_bool (by rw [HG.out]), hb, by rw [HG.out]; exact ht⟩
  · have HF : Hid (partV (.list l) d s = (false, { s with why := ownV (.list l) s.n d })) := Lib.hid (by rw [HP.out, stepV_no hq])
    clear HP
    generalize ownV (.list l) s.n d = q at *
    have hq' : ((q : Int) == 0) = false := by rw [beq_eq_false_iff_ne]; omega
    replace hO := Lib.hid hO
    go_enter Tryz.func85, Tryz.ntmps85
    go_wp2_with fail
    refine hO.out.mono ?_
    rintro e w1 ⟨rfl, hb1⟩
    have hs1 := hs0.out.below hb1 hbc
    have hb2 := hb1.mono (B' := B) (by omega)
    have hs2 := Lib.hid hs1
    obtain ⟨⟨a1, a2⟩, ⟨b1, b2⟩, ⟨c1, c2⟩⟩ := hs1
    go_wp2_with fail
    go_ret
    exact ⟨ret_bool (by rw [HF.out]), hb2.setCell (p := ⟨bc, 2, none⟩) hB _, by rw [HF.out]; exact hs2.out.why q⟩
set_option maxRecDepth 100000 in
set_option maxHeartbeats 1000000 in
theorem part_dict (l : List (ByteArray × V)) (ih : ∀ p ∈ l, PartC p.2) : PartC (.dict l) := by
  intro v d s w B bc hx hB hbc hd hs
  have hO := own_any (.dict l) v s.n d w (Rd.more (by omega) _ _ hx)
  obtain ⟨A, c, rfl, hl, hL⟩ := hx
  have HP : Hid (partV (.dict l) d s = stepV (.dict l) d s (partD l (d + 1))) := Lib.hid rfl
  have hs0 := Lib.hid hs
  obtain ⟨⟨a1, a2⟩, ⟨b1, b2⟩, ⟨c1, c2⟩⟩ := hs
  by_cases hq : ownV (.dict l) s.n d = 0
  · obtain ⟨hn1, hd1⟩ := ownV_zero hq
    have HF : Hid (partV (.dict l) d s = (partD l (d + 1)) ⟨s.n + 1, max s.deep d, 0⟩) := Lib.hid (by rw [HP.out, stepV_yes hq])
    rw [hq] at hO
    replace hO := Lib.hid hO
    clear hq HP
    have hm : (s.deep < d ∧ Hid (max s.deep d = d)) ∨ (¬ s.deep < d ∧ Hid (max s.deep d = s.deep)) := by
      by_cases h : s.deep < d
      · exact .inl ⟨h, Lib.hid (by omega)⟩
      · exact .inr ⟨h, Lib.hid (by omega)⟩
    rcases hm with ⟨hm, HM⟩ | ⟨hm, HM⟩ <;> rw [HM.out] at HF
    all_goals
      go_enter Tryz.func85, Tryz.ntmps85
      go_wp2_with fail
      refine hO.out.mono ?_
      rintro e w1 ⟨rfl, hb1⟩
      have hs1 := hs0.out.below hb1 hbc
      have hb2 := hb1.mono (B' := B) (by omega)
      have hs2 := Lib.hid hs1
      obtain ⟨⟨a1, a2⟩, ⟨b1, b2⟩, ⟨c1, c2⟩⟩ := hs1
      have HA := Lib.hid (fun (W : World) (t : Cnt) (hW : Below B w W) (hbW : bc < W.heap.size) (htW : CntAt W bc t) => all_any l ih A c d t W B bc (DictAt.below hL hW) hl hB hbW hd1 htW)
      clear hL ih
      go_wp2_with fail
      refine (HA.out _ _ (below_three hb2 hB _ _ _) (by go_simp; have := hb1.size; omega) (hs2.out.three _ _ _)).mono ?_
      rintro e w2 ⟨rfl, hb3, hc3⟩
      go_wp2
      go_ret
      exact ⟨ret_bool (by rw [HF.out]), (below_three hb2 hB _ _ _).trans hb3, by rw [HF.out]; exact hc3⟩
  · have HF : Hid (partV (.dict l) d s = (false, { s with why := ownV (.dict l) s.n d })) := Lib.hid (by rw [HP.out, stepV_no hq])
    clear HP
    generalize ownV (.dict l) s.n d = q at *
    have hq' : ((q : Int) == 0) = false := by rw [beq_eq_false_iff_ne]; omega
    replace hO := Lib.hid hO
    go_enter Tryz.func85, Tryz.ntmps85
    go_wp2_with fail
    refine hO.out.mono ?_
    rintro e w1 ⟨rfl, hb1⟩
    have hs1 := hs0.out.below hb1 hbc
    have hb2 := hb1.mono (B' := B) (by omega)
    have hs2 := Lib.hid hs1
    obtain ⟨⟨a1, a2⟩, ⟨b1, b2⟩, ⟨c1, c2⟩⟩ := hs1
    go_wp2_with fail
    go_ret
    exact ⟨ret_bool (by rw [HF.out]), hb2.setCell (p := ⟨bc, 2, none⟩) hB _, by rw [HF.out]; exact hs2.out.why q⟩
set_option maxRecDepth 100000 in
set_option maxHeartbeats 1000000 in
theorem part_record (cls : ByteArray) (ver : Int) (l : List (ByteArray × V)) (ih : ∀ p ∈ l, PartC p.2) : PartC (.record cls ver l) := by
  intro v d s w B bc hx hB hbc hd hs
  have hO := own_any (.record cls ver l) v s.n d w (Rd.more (by omega) _ _ hx)
  obtain ⟨b, rfl, hbB, _, _, _, _, _, A, c, e1, hl, hL⟩ := hx
  have HP : Hid (partV (.record cls ver l) d s = stepV (.record cls ver l) d s (partD l (d + 1))) := Lib.hid rfl
  have hs0 := Lib.hid hs
  obtain ⟨⟨a1, a2⟩, ⟨b1, b2⟩, ⟨c1, c2⟩⟩ := hs
  by_cases hq : ownV (.record cls ver l) s.n d = 0
  · obtain ⟨hn1, hd1⟩ := ownV_zero hq
    have HF : Hid (partV (.record cls ver l) d s = (partD l (d + 1)) ⟨s.n + 1, max s.deep d, 0⟩) := Lib.hid (by rw [HP.out, stepV_yes hq])
    rw [hq] at hO
    replace hO := Lib.hid hO
    clear hq HP
    have hm : (s.deep < d ∧ Hid (max s.deep d = d)) ∨ (¬ s.deep < d ∧ Hid (max s.deep d = s.deep)) := by
      by_cases h : s.deep < d
      · exact .inl ⟨h, Lib.hid (by omega)⟩
      · exact .inr ⟨h, Lib.hid (by omega)⟩
    rcases hm with ⟨hm, HM⟩ | ⟨hm, HM⟩ <;> rw [HM.out] at HF
    all_goals
      go_enter Tryz.func85, Tryz.ntmps85
      go_wp2_with fail
      refine hO.out.mono ?_
      rintro e w1 ⟨rfl, hb1⟩
      have hs1 := hs0.out.below hb1 hbc
      have hb2 := hb1.mono (B' := B) (by omega)
      have hs2 := Lib.hid hs1
      obtain ⟨⟨a1, a2⟩, ⟨b1, b2⟩, ⟨c1, c2⟩⟩ := hs1
      have HA := Lib.hid (fun (W : World) (t : Cnt) (hW : Below B w W) (hbW : bc < W.heap.size) (htW : CntAt W bc t) => all_any l ih A c d t W B bc (DictAt.below hL hW) hl hB hbW hd1 htW)
      clear hL ih
      have d2 := (hb1.cell (p := ⟨b, 2, none⟩) (show b < w.heap.size by omega)).trans e1
      have hne : b ≠ bc := by omega
      have hne2 : bc ≠ b := by omega
      go_wp2_with fail
      refine (HA.out _ _ (below_three hb2 hB _ _ _) (by go_simp; have := hb1.size; omega) (hs2.out.three _ _ _)).mono ?_
      rintro e w2 ⟨rfl, hb3, hc3⟩
      go_wp2
      go_ret
      exact ⟨ret_bool (by rw [HF.out]), (below_three hb2 hB _ _ _).trans hb3, by rw [HF.out]; exact hc3⟩
  · have HF : Hid (partV (.record cls ver l) d s = (false, { s with why := ownV (.record cls ver l) s.n d })) := Lib.hid (by rw [HP.out, stepV_no hq])
    clear HP
    generalize ownV (.record cls ver l) s.n d = q at *
    have hq' : ((q : Int) == 0) = false := by rw [beq_eq_false_iff_ne]; omega
    replace hO := Lib.hid hO
    go_enter Tryz.func85, Tryz.ntmps85
    go_wp2_with fail
    refine hO.out.mono ?_
    rintro e w1 ⟨rfl, hb1⟩
    have hs1 := hs0.out.below hb1 hbc
    have hb2 := hb1.mono (B' := B) (by omega)
    have hs2 := Lib.hid hs1
    obtain ⟨⟨a1, a2⟩, ⟨b1, b2⟩, ⟨c1, c2⟩⟩ := hs1
    go_wp2_with fail
    go_ret
    exact ⟨ret_bool (by rw [HF.out]), hb2.setCell (p := ⟨bc, 2, none⟩) hB _, by rw [HF.out]; exact hs2.out.why q⟩
theorem part_any (x : V) : PartC x := by
  induction x using V.ind with
  | h0 => exact part_nil
  | h1 b => exact part_bool b
  | h2 b => exact part_int b
  | h3 b => exact part_flt b
  | h4 b => exact part_text b
  | h5 b => exact part_bytes b
  | h6 b => exact part_ref b
  | h7 l ih => exact part_list l ih
  | h8 l ih => exact part_dict l ih
  | h9 c v l ih => exact part_record c v l ih
  | h10 => exact part_nothing
  | h11 => exact part_alien
end Go.Proofs.YtobpkelblpdajaaGreatDoor
