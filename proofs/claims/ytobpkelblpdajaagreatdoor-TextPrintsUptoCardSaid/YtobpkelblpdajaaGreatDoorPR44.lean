/- Walks: the term of any value (mk.Plain): records; any value. -/
import Derived.Test.YtobpkelblpdajaaGreatDoorPR43
import Derived.Test.YtobpkelblpdajaaGreatDoorPR39
import Derived.Test.YtobpkelblpdajaaGreatDoorPR29
set_option linter.unusedVariables false
set_option linter.unusedSimpArgs false
set_option linter.unusedSectionVars false
namespace Go.Proofs.YtobpkelblpdajaaGreatDoor
open Go Go.RowKit
attribute [local go_sem] ta_no_bool ta_yes_bool ta_nil_bool ta_no_int64 ta_yes_int64 ta_nil_int64 ta_no_flt ta_yes_flt ta_nil_flt ta_no_str ta_yes_str ta_nil_str ta_no_byt ta_yes_byt ta_nil_byt ta_no_ref ta_yes_ref ta_nil_ref ta_no_lst ta_yes_lst ta_nil_lst ta_no_dct ta_yes_dct ta_nil_dct ta_no_rec ta_yes_rec ta_nil_rec
set_option maxRecDepth 100000 in
set_option maxHeartbeats 1000000 in
theorem plain_record (cls : ByteArray) (ver : Int) (l : List (ByteArray × V)) (ih : ∀ p ∈ l, PlainC p.2) (b : Nat) (A : Option Addr) (c d : Nat) (w : World) (hd : d ≤ 400) (hl : l.length ≤ 137438953472) (hbB : b < w.heap.size) (hcs : cls.size ≤ 140737488351232) (k0 : w.cell? ⟨b, 0, none⟩ = some (.string cls)) (k1 : w.cell? ⟨b, 1, none⟩ = some (.int .i64 ver)) (hv1 : -9223372036854775808 ≤ ver) (hv2 : ver ≤ 9223372036854775807) (k2 : w.cell? ⟨b, 2, none⟩ = some (.slice A l.length c)) (hr : l = [] ∨ ∃ b off, A = some ⟨b, off, none⟩ ∧ b < w.heap.size ∧ RdD w (fun b => b < w.heap.size) b off l) : Calls Tryz.prog 127 #[.iface 32 (.pointer (some ⟨b, 0, none⟩)), .int .i64 d] w (TermPost (plainT (.record cls ver l) d) w) := by
  have hT : plainT (.record cls ver l) d = .mk 10 false 0 0 ⟨#[]⟩ [] 0 [] (plainD l (d + 1)) cls ver := by rw [plainT, if_neg (by omega)]
  rw [hT]
  have hq : decide ((400 : Int) < (d : Int)) = false := by simp; omega
  have o0 := fun (W : World) (a : Addr) (m : Mode) (x : Nat) => run_store Tryz.prog W a (.float .f64 x) m rfl
  have HA : Hid (Below w.heap.size w (w.alloc (.cells #[.int .i64 0, .bool false, .int .i64 0, .float .f64 0, .string ⟨#[]⟩, .slice none 0 0, .int .u64 0, .slice none 0 0, .slice none 0 0, .string ⟨#[]⟩, .int .i64 0] 29))) := Lib.hid ((Below.refl _ _).alloc (Nat.le_refl _) _)
  have hsz : (w.alloc (.cells #[.int .i64 0, .bool false, .int .i64 0, .float .f64 0, .string ⟨#[]⟩, .slice none 0 0, .int .u64 0, .slice none 0 0, .slice none 0 0, .string ⟨#[]⟩, .int .i64 0] 29)).heap.size = w.heap.size + 1 := by simp
  have hpl : (plainD l (d + 1)).length ≤ 137438953472 := by rw [plainD_eq]; simpa using hl
  have HE := Lib.hid (fun (W : World) (hW : Below w.heap.size w W) (hz9 : w.heap.size ≤ W.heap.size) => entries_any l ih A c d W hd hl (hr.imp id (fun ⟨b, off, h1, h2, h3⟩ => ⟨b, off, h1, by omega, RdD.iff.2 (fun i x hx => by
    obtain ⟨a1, a2, v, a3, a4⟩ := RdD.iff.1 h3 i x hx
    exact ⟨(hW.cell (show b < _ from h2)).trans a1, a2, v, (hW.cell (show b < _ from h2)).trans a3, Rd.more hz9 _ _ (Rd.below a4 hW)⟩)⟩)))
  have k0' := (HA.out.cell (p := ⟨b, 0, none⟩) hbB).trans k0
  have k1' := (HA.out.cell (p := ⟨b, 1, none⟩) hbB).trans k1
  have k2' := (HA.out.cell (p := ⟨b, 2, none⟩) hbB).trans k2
  have hb2 : b < w.heap.size + 1 := by omega
  clear hT hr k0 k1 k2
  go_enter Tryz.func127, Tryz.ntmps127
  go_wp2_with fail
  refine wp_region_heldL (fun W => Below (w.heap.size + 1) (w.alloc (.cells #[.int .i64 0, .bool false, .int .i64 0, .float .f64 0, .string ⟨#[]⟩, .slice none 0 0, .int .u64 0, .slice none 0 0, .slice none 0 0, .string ⟨#[]⟩, .int .i64 0] 29)) W) 15 [0, 1, 2, 3, 4, 5, 6, 7, 8, 9, 10, 11, 12] [13, 14] (by kernel_rfl) (by rfl) (by rfl) (by kernel_rfl) (by kernel_rfl) (fun _ _ _ _ _ h => h) ?_ ?_
  · ((exact (Below.refl _ _).drew))
  simp only [List.take_succ_cons, List.take_zero, pickI, List.getElem?_cons_succ, List.getElem?_cons_zero]
  repeat (refine HdS.step (fun K hK => ?_); go_simp; first | (refine hK _ ?_; clear hK K) | (apply Exists.intro; refine ⟨fun W hW => ?_, hK _ ?_⟩; (first | (intros; rfl) | ((have e0 := (hW.cell (p := ⟨b, 0, none⟩) hb2).trans k0'; have e1 := (hW.cell (p := ⟨b, 1, none⟩) hb2).trans k1'; have e2 := (hW.cell (p := ⟨b, 2, none⟩) hb2).trans k2'; go_simp; rfl))); clear hK K))
  refine HdS.nil ?_
  refine SeqS.step (fun K hK => ?_)
  go_simp
  go_at_call 184
  refine (HE.out _ ((HA.out.trans ((Below.refl _ _).drew)) : Below w.heap.size w _) (by show w.heap.size ≤ (World.heap (w.alloc (.cells #[.int .i64 0, .bool false, .int .i64 0, .float .f64 0, .string ⟨#[]⟩, .slice none 0 0, .int .u64 0, .slice none 0 0, .slice none 0 0, .string ⟨#[]⟩, .int .i64 0] 29))).size; rw [hsz]; omega)).mono ?_
  rintro e w1 ⟨A2, c2, rfl, hR, hb0⟩
  have hb1 : Below (w.heap.size + 1) (w.alloc (.cells #[.int .i64 0, .bool false, .int .i64 0, .float .f64 0, .string ⟨#[]⟩, .slice none 0 0, .int .u64 0, .slice none 0 0, .slice none 0 0, .string ⟨#[]⟩, .int .i64 0] 29)) w1 := (Below.refl (w.heap.size + 1) (w.alloc (.cells #[.int .i64 0, .bool false, .int .i64 0, .float .f64 0, .string ⟨#[]⟩, .slice none 0 0, .int .u64 0, .slice none 0 0, .slice none 0 0, .string ⟨#[]⟩, .int .i64 0] 29))).drew.trans (hb0.mono (by show w.heap.size + 1 ≤ (World.heap (w.alloc (.cells #[.int .i64 0, .bool false, .int .i64 0, .float .f64 0, .string ⟨#[]⟩, .slice none 0 0, .int .u64 0, .slice none 0 0, .slice none 0 0, .string ⟨#[]⟩, .int .i64 0] 29))).size; rw [hsz]; omega))
  refine hK _ _ hb1 ?_
  clear hK K
  refine SeqS.step (fun K hK => ?_)
  go_simp
  refine hK _ _ hb1 ?_
  clear hK K
  refine SeqS.nil ?_
  have hsz2 : w.heap.size + 1 ≤ w1.heap.size := by have := hb1.size; rw [hsz] at this; exact this
  have cc0 : w1.cell? ⟨w.heap.size, 0, none⟩ = some (.int .i64 0) := (hb1.cell (p := ⟨w.heap.size, 0, none⟩) (show w.heap.size < w.heap.size + 1 by omega)).trans (by simp [go_sem])
  have ff0 : w1.frozen? ⟨w.heap.size, 0, none⟩ = false := (hb1.frozen (p := ⟨w.heap.size, 0, none⟩) (show w.heap.size < w.heap.size + 1 by omega)).trans (by simp [go_sem])
  have cc1 : w1.cell? ⟨w.heap.size, 1, none⟩ = some (.bool false) := (hb1.cell (p := ⟨w.heap.size, 1, none⟩) (show w.heap.size < w.heap.size + 1 by omega)).trans (by simp [go_sem])
  have ff1 : w1.frozen? ⟨w.heap.size, 1, none⟩ = false := (hb1.frozen (p := ⟨w.heap.size, 1, none⟩) (show w.heap.size < w.heap.size + 1 by omega)).trans (by simp [go_sem])
  have cc2 : w1.cell? ⟨w.heap.size, 2, none⟩ = some (.int .i64 0) := (hb1.cell (p := ⟨w.heap.size, 2, none⟩) (show w.heap.size < w.heap.size + 1 by omega)).trans (by simp [go_sem])
  have ff2 : w1.frozen? ⟨w.heap.size, 2, none⟩ = false := (hb1.frozen (p := ⟨w.heap.size, 2, none⟩) (show w.heap.size < w.heap.size + 1 by omega)).trans (by simp [go_sem])
  have cc3 : w1.cell? ⟨w.heap.size, 3, none⟩ = some (.float .f64 0) := (hb1.cell (p := ⟨w.heap.size, 3, none⟩) (show w.heap.size < w.heap.size + 1 by omega)).trans (by simp [go_sem])
  have ff3 : w1.frozen? ⟨w.heap.size, 3, none⟩ = false := (hb1.frozen (p := ⟨w.heap.size, 3, none⟩) (show w.heap.size < w.heap.size + 1 by omega)).trans (by simp [go_sem])
  have cc4 : w1.cell? ⟨w.heap.size, 4, none⟩ = some (.string ⟨#[]⟩) := (hb1.cell (p := ⟨w.heap.size, 4, none⟩) (show w.heap.size < w.heap.size + 1 by omega)).trans (by simp [go_sem])
  have ff4 : w1.frozen? ⟨w.heap.size, 4, none⟩ = false := (hb1.frozen (p := ⟨w.heap.size, 4, none⟩) (show w.heap.size < w.heap.size + 1 by omega)).trans (by simp [go_sem])
  have cc5 : w1.cell? ⟨w.heap.size, 5, none⟩ = some (.slice none 0 0) := (hb1.cell (p := ⟨w.heap.size, 5, none⟩) (show w.heap.size < w.heap.size + 1 by omega)).trans (by simp [go_sem])
  have ff5 : w1.frozen? ⟨w.heap.size, 5, none⟩ = false := (hb1.frozen (p := ⟨w.heap.size, 5, none⟩) (show w.heap.size < w.heap.size + 1 by omega)).trans (by simp [go_sem])
  have cc6 : w1.cell? ⟨w.heap.size, 6, none⟩ = some (.int .u64 0) := (hb1.cell (p := ⟨w.heap.size, 6, none⟩) (show w.heap.size < w.heap.size + 1 by omega)).trans (by simp [go_sem])
  have ff6 : w1.frozen? ⟨w.heap.size, 6, none⟩ = false := (hb1.frozen (p := ⟨w.heap.size, 6, none⟩) (show w.heap.size < w.heap.size + 1 by omega)).trans (by simp [go_sem])
  have cc7 : w1.cell? ⟨w.heap.size, 7, none⟩ = some (.slice none 0 0) := (hb1.cell (p := ⟨w.heap.size, 7, none⟩) (show w.heap.size < w.heap.size + 1 by omega)).trans (by simp [go_sem])
  have ff7 : w1.frozen? ⟨w.heap.size, 7, none⟩ = false := (hb1.frozen (p := ⟨w.heap.size, 7, none⟩) (show w.heap.size < w.heap.size + 1 by omega)).trans (by simp [go_sem])
  have cc8 : w1.cell? ⟨w.heap.size, 8, none⟩ = some (.slice none 0 0) := (hb1.cell (p := ⟨w.heap.size, 8, none⟩) (show w.heap.size < w.heap.size + 1 by omega)).trans (by simp [go_sem])
  have ff8 : w1.frozen? ⟨w.heap.size, 8, none⟩ = false := (hb1.frozen (p := ⟨w.heap.size, 8, none⟩) (show w.heap.size < w.heap.size + 1 by omega)).trans (by simp [go_sem])
  have cc9 : w1.cell? ⟨w.heap.size, 9, none⟩ = some (.string ⟨#[]⟩) := (hb1.cell (p := ⟨w.heap.size, 9, none⟩) (show w.heap.size < w.heap.size + 1 by omega)).trans (by simp [go_sem])
  have ff9 : w1.frozen? ⟨w.heap.size, 9, none⟩ = false := (hb1.frozen (p := ⟨w.heap.size, 9, none⟩) (show w.heap.size < w.heap.size + 1 by omega)).trans (by simp [go_sem])
  have cc10 : w1.cell? ⟨w.heap.size, 10, none⟩ = some (.int .i64 0) := (hb1.cell (p := ⟨w.heap.size, 10, none⟩) (show w.heap.size < w.heap.size + 1 by omega)).trans (by simp [go_sem])
  have ff10 : w1.frozen? ⟨w.heap.size, 10, none⟩ = false := (hb1.frozen (p := ⟨w.heap.size, 10, none⟩) (show w.heap.size < w.heap.size + 1 by omega)).trans (by simp [go_sem])
  unfold lastQ
  go_simp
  go_wp2
  (try simp only [Exit.inBlock, Exit.then]); refine bodyPost_ret (v := .agg #[.int .i64 10, .bool false, .int .i64 0, .float .f64 0, .string ⟨#[]⟩, .slice none 0 0, .int .u64 0, .slice none 0 0, .slice A2 (plainD l (d + 1)).length c2, .string cls, .int .i64 ver]) (by simp [results, Tryz.results127, go_sem, cc0, cc1, cc2, cc3, cc4, cc5, cc6, cc7, cc8, cc9, cc10]) rfl ?_
  have hsz8 : (((((((((((w1.setCell ⟨w.heap.size, 0, none⟩ (.int .i64 10)).setCell ⟨w.heap.size, 1, none⟩ (.bool false)).setCell ⟨w.heap.size, 2, none⟩ (.int .i64 0)).setCell ⟨w.heap.size, 3, none⟩ (.float .f64 0)).setCell ⟨w.heap.size, 4, none⟩ (.string ⟨#[]⟩)).setCell ⟨w.heap.size, 5, none⟩ (.slice none 0 0)).setCell ⟨w.heap.size, 6, none⟩ (.int .u64 0)).setCell ⟨w.heap.size, 7, none⟩ (.slice none 0 0)).setCell ⟨w.heap.size, 8, none⟩ (.slice A2 (plainD l (d + 1)).length c2)).setCell ⟨w.heap.size, 9, none⟩ (.string cls)).setCell ⟨w.heap.size, 10, none⟩ (.int .i64 ver)).heap.size = w1.heap.size := by simp
  have hkeep : ∀ p : Addr, p.block ≠ w.heap.size → (((((((((((w1.setCell ⟨w.heap.size, 0, none⟩ (.int .i64 10)).setCell ⟨w.heap.size, 1, none⟩ (.bool false)).setCell ⟨w.heap.size, 2, none⟩ (.int .i64 0)).setCell ⟨w.heap.size, 3, none⟩ (.float .f64 0)).setCell ⟨w.heap.size, 4, none⟩ (.string ⟨#[]⟩)).setCell ⟨w.heap.size, 5, none⟩ (.slice none 0 0)).setCell ⟨w.heap.size, 6, none⟩ (.int .u64 0)).setCell ⟨w.heap.size, 7, none⟩ (.slice none 0 0)).setCell ⟨w.heap.size, 8, none⟩ (.slice A2 (plainD l (d + 1)).length c2)).setCell ⟨w.heap.size, 9, none⟩ (.string cls)).setCell ⟨w.heap.size, 10, none⟩ (.int .i64 ver)).cell? p = w1.cell? p := by
    intro p h1
    have g1 : ∀ o, (⟨w.heap.size, o, none⟩ : Addr) ≠ p := fun o h => h1 (by rw [← h])
    rw [World.cell?_setCell_other _ _ _ _ (g1 _), World.cell?_setCell_other _ _ _ _ (g1 _), World.cell?_setCell_other _ _ _ _ (g1 _), World.cell?_setCell_other _ _ _ _ (g1 _), World.cell?_setCell_other _ _ _ _ (g1 _), World.cell?_setCell_other _ _ _ _ (g1 _), World.cell?_setCell_other _ _ _ _ (g1 _), World.cell?_setCell_other _ _ _ _ (g1 _), World.cell?_setCell_other _ _ _ _ (g1 _), World.cell?_setCell_other _ _ _ _ (g1 _), World.cell?_setCell_other _ _ _ _ (g1 _)]
  have hbw : Below w.heap.size w w1 := HA.out.trans (hb1.mono (by omega))
  refine ⟨[.int .i64 10, .bool false, .int .i64 0, .float .f64 0, .string ⟨#[]⟩, .slice none 0 0, .int .u64 0, .slice none 0 0, .slice A2 (plainD l (d + 1)).length c2, .string cls, .int .i64 ver], rfl, ⟨none, 0, none, 0, A2, c2, rfl, ⟨by decide, by decide⟩, ⟨by decide, by decide⟩, by decide, by decide, ⟨fun _ => rfl, .inl rfl⟩, by decide, by decide, hcs, ⟨hv1, hv2⟩, ⟨by decide, .inl rfl⟩, ⟨by omega, ?_⟩⟩, ?_⟩
  · exact rowsE_iff.1 (RowsAt.more (RowsAt.keep hR (fun p hp => hkeep p (by have := hp.1; have h7 : (World.heap (w.alloc (.cells #[.int .i64 0, .bool false, .int .i64 0, .float .f64 0, .string ⟨#[]⟩, .slice none 0 0, .int .u64 0, .slice none 0 0, .slice none 0 0, .string ⟨#[]⟩, .int .i64 0] 29))).size = w.heap.size + 1 := hsz; have h8 : (World.drew (w.alloc (.cells #[.int .i64 0, .bool false, .int .i64 0, .float .f64 0, .string ⟨#[]⟩, .slice none 0 0, .int .u64 0, .slice none 0 0, .slice none 0 0, .string ⟨#[]⟩, .int .i64 0] 29))).heap.size = w.heap.size + 1 := hsz; omega))) (fun b hb9 => ⟨by have := hb9.1; have h8 : (World.drew (w.alloc (.cells #[.int .i64 0, .bool false, .int .i64 0, .float .f64 0, .string ⟨#[]⟩, .slice none 0 0, .int .u64 0, .slice none 0 0, .slice none 0 0, .string ⟨#[]⟩, .int .i64 0] 29))).heap.size = w.heap.size + 1 := hsz; omega, by rw [hsz8]; exact hb9.2⟩))
  · exact (((((((((((hbw.setCell (p := ⟨w.heap.size, 0, none⟩) (Nat.le_refl _) (.int .i64 10)).setCell (p := ⟨w.heap.size, 1, none⟩) (Nat.le_refl _) (.bool false)).setCell (p := ⟨w.heap.size, 2, none⟩) (Nat.le_refl _) (.int .i64 0)).setCell (p := ⟨w.heap.size, 3, none⟩) (Nat.le_refl _) (.float .f64 0)).setCell (p := ⟨w.heap.size, 4, none⟩) (Nat.le_refl _) (.string ⟨#[]⟩)).setCell (p := ⟨w.heap.size, 5, none⟩) (Nat.le_refl _) (.slice none 0 0)).setCell (p := ⟨w.heap.size, 6, none⟩) (Nat.le_refl _) (.int .u64 0)).setCell (p := ⟨w.heap.size, 7, none⟩) (Nat.le_refl _) (.slice none 0 0)).setCell (p := ⟨w.heap.size, 8, none⟩) (Nat.le_refl _) (.slice A2 (plainD l (d + 1)).length c2)).setCell (p := ⟨w.heap.size, 9, none⟩) (Nat.le_refl _) (.string cls)).setCell (p := ⟨w.heap.size, 10, none⟩) (Nat.le_refl _) (.int .i64 ver))
/- A value whose rows are no longer than a check lets through, at a depth that it lets through. -/
mutual
def tinyV : V → Nat → Prop
  | .list l, d => d ≤ 64 ∧ l.length ≤ 4096 ∧ tinyL l (d + 1)
  | .dict l, d => d ≤ 64 ∧ l.length ≤ 4096 ∧ tinyD l (d + 1)
  | .record _ _ l, d => d ≤ 64 ∧ l.length ≤ 4096 ∧ tinyD l (d + 1)
  | .nothing, _ => False
  | .alien, _ => False
  | .nil, d => d ≤ 64
  | .bool _, d => d ≤ 64
  | .int _, d => d ≤ 64
  | .flt _, d => d ≤ 64
  | .text _, d => d ≤ 64
  | .bytes _, d => d ≤ 64
  | .ref _, d => d ≤ 64
def tinyL : List V → Nat → Prop
  | [], _ => True
  | x :: r, d => tinyV x d ∧ tinyL r d
def tinyD : List (ByteArray × V) → Nat → Prop
  | [], _ => True
  | (_, x) :: r, d => tinyV x d ∧ tinyD r d
end
theorem tinyL_iff {l : List V} {d : Nat} : tinyL l d ↔ ∀ x ∈ l, tinyV x d := by
  induction l with
  | nil => simp [tinyL]
  | cons x r ih => simp [tinyL, ih]
theorem tinyD_iff {l : List (ByteArray × V)} {d : Nat} : tinyD l d ↔ ∀ p ∈ l, tinyV p.2 d := by
  induction l with
  | nil => simp [tinyD]
  | cons x r ih => obtain ⟨n, x⟩ := x; simp [tinyD, ih]
theorem own_deep {x : V} {n d : Nat} (h : ownV x n d = 0) : d ≤ 64 := by
  unfold ownV at h
  split at h
  · cases x <;> cases h
  · omega
theorem fields_le {l : List (ByteArray × V)} (h : fieldsV l = 0) : l.length ≤ 4096 := by
  unfold fieldsV at h
  split at h
  · cases h
  · omega
theorem own_dict_le {l : List (ByteArray × V)} {n d : Nat} (h : ownV (.dict l) n d = 0) : l.length ≤ 4096 := by
  unfold ownV at h
  split at h
  · cases h
  · exact fields_le h
theorem own_record_le {c : ByteArray} {v : Int} {l : List (ByteArray × V)} {n d : Nat} (h : ownV (.record c v l) n d = 0) : l.length ≤ 4096 := by
  unfold ownV at h
  split at h
  · cases h
  · simp only at h; split at h
    · cases h
    · split at h
      · cases h
      · exact fields_le h
theorem own_rows_le {l : List V} {n d : Nat} (h : ownV (.list l) n d = 0) : l.length ≤ 4096 := by
  unfold ownV at h
  split at h
  · cases h
  · simp only at h; split at h
    · cases h
    · omega
theorem partL_tiny (l : List V) (ih : ∀ x ∈ l, ∀ d s, (partV x d s).1 = true → tinyV x d) : ∀ d s, (partL l d s).1 = true → tinyL l d := by
  induction l with
  | nil => intro d s _; exact trivial
  | cons x r ihr =>
    intro d s h
    obtain ⟨h1, h2⟩ := then_fine h
    exact ⟨ih x (by simp) _ _ h1, ihr (fun y hy => ih y (by simp [hy])) _ _ h2⟩
theorem partD_tiny (l : List (ByteArray × V)) (ih : ∀ p ∈ l, ∀ d s, (partV p.2 d s).1 = true → tinyV p.2 d) : ∀ d s, (partD l d s).1 = true → tinyD l d := by
  induction l with
  | nil => intro d s _; exact trivial
  | cons p r ihr =>
    obtain ⟨n, x⟩ := p
    intro d s h
    obtain ⟨h1, h2⟩ := then_fine h
    exact ⟨ih (n, x) (by simp) _ _ h1, ihr (fun y hy => ih y (by simp [hy])) _ _ h2⟩
theorem part_tiny (x : V) : ∀ d s, (partV x d s).1 = true → tinyV x d := by
  induction x using V.ind with
  | h0 => intro d s h; exact own_deep (step_fine h).1
  | h1 => intro d s h; exact own_deep (step_fine h).1
  | h2 => intro d s h; exact own_deep (step_fine h).1
  | h3 => intro d s h; exact own_deep (step_fine h).1
  | h4 => intro d s h; exact own_deep (step_fine h).1
  | h5 => intro d s h; exact own_deep (step_fine h).1
  | h6 => intro d s h; exact own_deep (step_fine h).1
  | h7 l ih => intro d s h; exact ⟨own_deep (step_fine h).1, own_rows_le (step_fine h).1, partL_tiny l ih _ _ (step_fine h).2⟩
  | h8 l ih => intro d s h; exact ⟨own_deep (step_fine h).1, own_dict_le (step_fine h).1, partD_tiny l ih _ _ (step_fine h).2⟩
  | h9 c v l ih => intro d s h; exact ⟨own_deep (step_fine h).1, own_record_le (step_fine h).1, partD_tiny l ih _ _ (step_fine h).2⟩
  | h10 => intro d s h; exact absurd rfl (own_kind (step_fine h).1).1
  | h11 => intro d s h; exact absurd rfl (own_kind (step_fine h).1).2
theorem okV_tiny {x : V} (h : okV x) : tinyV x 1 := part_tiny x _ _ h
theorem plain_all (x : V) : ∀ k, tinyV x k → PlainC x := by
  induction x using V.ind with
  | h0 => rintro k _ vv d w rfl _; by_cases hd : d ≤ 400; exact plain_nil d hd w; exact plain_far _ _ d w (by omega)
  | h1 b => rintro k _ vv d w rfl _; by_cases hd : d ≤ 400; exact plain_bool b d hd w; exact plain_far _ _ d w (by omega)
  | h2 n => rintro k _ vv d w ⟨rfl, h⟩ _; by_cases hd : d ≤ 400; exact plain_int n d hd h w; exact plain_far _ _ d w (by omega)
  | h3 f => rintro k _ vv d w rfl _; by_cases hd : d ≤ 400; exact plain_flt f d hd w; exact plain_far _ _ d w (by omega)
  | h4 s => rintro k _ vv d w ⟨rfl, h⟩ _; by_cases hd : d ≤ 400; exact plain_text s d hd h w; exact plain_far _ _ d w (by omega)
  | h5 l => rintro k _ vv d w ⟨A, c, rfl, h1, h2, h3⟩ _; by_cases hd : d ≤ 400; exact plain_bytes A l c d w hd h1 h2 h3; exact plain_far _ _ d w (by omega)
  | h6 n => rintro k _ vv d w ⟨rfl, h1, h2⟩ _; by_cases hd : d ≤ 400; exact plain_ref n d hd h1 h2 w; exact plain_far _ _ d w (by omega)
  | h7 l ih => rintro k ⟨_, hl, ht⟩ vv d w ⟨A, c, rfl, h1, h2, h3⟩ _; by_cases hd : d ≤ 400; exact plain_list l (fun x hx => ih x hx _ (tinyL_iff.1 ht x hx)) A c d w hd (by omega) h3; exact plain_far _ _ d w (by omega)
  | h8 l ih => rintro k ⟨_, hl, ht⟩ vv d w ⟨A, c, rfl, h1, h3⟩ _; by_cases hd : d ≤ 400; exact plain_dict l (fun x hx => ih x hx _ (tinyD_iff.1 ht x hx)) A c d w hd (by omega) h3; exact plain_far _ _ d w (by omega)
  | h9 cls ver l ih => rintro k ⟨_, hl, ht⟩ vv d w ⟨b, rfl, hb, hcs, k0, k1, hv1, hv2, A, c, k2, h1, h3⟩ _; by_cases hd : d ≤ 400; exact plain_record cls ver l (fun x hx => ih x hx _ (tinyD_iff.1 ht x hx)) b A c d w hd (by omega) hb hcs k0 k1 hv1 hv2 k2 h3; exact plain_far _ _ d w (by omega)
  | h10 => intro k h; exact h.elim
  | h11 => intro k h; exact h.elim
theorem Plain_ok (x : V) (h : tinyV x 1) (vv : Value) (w : World) (hr : Rd w w.heap.size x vv) : Calls Tryz.prog 71 #[vv] w (TermPost (plainT x 0) w) :=
  Plain_any x vv w (fun W hW => plain_all x 1 h vv 0 W (Rd.more hW.size _ _ (Rd.below hr hW)) (by omega))
/- A value that passes a check, made plain, is the same as itself. -/
end Go.Proofs.YtobpkelblpdajaaGreatDoor
/- Walks: the document's Clean: kinds without parts. -/
namespace Go.Proofs.YtobpkelblpdajaaGreatDoor
open Go Go.RowKit
mutual
def cleanT : Tm → Tm
  | .mk k b i f t bs r l d c v => .mk k (if k = 2 then b else false) (if k = 3 then i else 0) (if k = 4 then f else 0) (if k = 5 then t else ⟨#[]⟩) (if k = 6 then bs else []) (if k = 7 then r else 0) (if k = 8 then cleanTL l else []) (if k = 9 ∨ k = 10 then cleanTD d else []) (if k = 10 then c else ⟨#[]⟩) (if k = 10 then v else 0)
def cleanTL : List Tm → List Tm
  | [] => []
  | x :: r => cleanT x :: cleanTL r
def cleanTD : List (ByteArray × Tm) → List (ByteArray × Tm)
  | [] => []
  | (n, x) :: r => (n, cleanT x) :: cleanTD r
end
def RCleanC (T : Tm) : Prop := ∀ (x : List Value) (w : World), RdT w w.heap.size T x → Calls Tryz.prog 35 #[termOf x] w (TermPost (cleanT T) w)
set_option maxRecDepth 100000 in
set_option maxHeartbeats 1000000 in
theorem rclean_2 (b : Bool) (i : Int) (f : Nat) (t : ByteArray) (bs : List UInt8) (r : Int) (l : List Tm) (d : List (ByteArray × Tm)) (c : ByteArray) (v : Int) : RCleanC (.mk 2 b i f t bs r l d c v) := by
  rintro x w ⟨Ab, cb, Al, cl, Ad, cd, rfl, hk, hi, ht, hbl, ⟨hbn, hbs⟩, hr0, hr1, hc, hv, ⟨hll, hl⟩, ⟨hdl, hd⟩⟩
  have HC : Hid (cleanT (.mk 2 b i f t bs r l d c v) = .mk 2 b 0 0 ⟨#[]⟩ [] 0 [] [] ⟨#[]⟩ 0) := Lib.hid (by rw [cleanT]; simp)
  have o0 := fun (W : World) (a : Addr) (m : Mode) (x : Nat) => run_store Tryz.prog W a (.float .f64 x) m rfl
  unfold termOf
  clear hbs hl hd hbn hbl hll hdl
  go_enter Tryz.func35, Tryz.ntmps35
  go_wp2
  refine bodyPost_ret (v := .agg #[.int .i64 2, .bool b, .int .i64 0, .float .f64 0, .string ⟨#[]⟩, .slice none 0 0, .int .u64 0, .slice none 0 0, .slice none 0 0, .string ⟨#[]⟩, .int .i64 0]) (by simp [results, Tryz.results35, go_sem]) rfl ?_
  rw [HC.out]
  exact ⟨[.int .i64 2, .bool b, .int .i64 0, .float .f64 0, .string ⟨#[]⟩, .slice none 0 0, .int .u64 0, .slice none 0 0, .slice none 0 0, .string ⟨#[]⟩, .int .i64 0], rfl, ⟨none, 0, none, 0, none, 0, rfl, hk, ⟨by decide, by decide⟩, by decide, by decide, ⟨fun _ => rfl, .inl rfl⟩, by decide, by decide, by decide, ⟨by decide, by decide⟩, ⟨by decide, .inl rfl⟩, ⟨by decide, .inl rfl⟩⟩, (((Below.refl _ _).alloc (Nat.le_refl _) _).alloc (by simp) _).alloc (by simp; omega) _⟩
set_option maxRecDepth 100000 in
set_option maxHeartbeats 1000000 in
theorem rclean_3 (b : Bool) (i : Int) (f : Nat) (t : ByteArray) (bs : List UInt8) (r : Int) (l : List Tm) (d : List (ByteArray × Tm)) (c : ByteArray) (v : Int) : RCleanC (.mk 3 b i f t bs r l d c v) := by
  rintro x w ⟨Ab, cb, Al, cl, Ad, cd, rfl, hk, hi, ht, hbl, ⟨hbn, hbs⟩, hr0, hr1, hc, hv, ⟨hll, hl⟩, ⟨hdl, hd⟩⟩
  have HC : Hid (cleanT (.mk 3 b i f t bs r l d c v) = .mk 3 false i 0 ⟨#[]⟩ [] 0 [] [] ⟨#[]⟩ 0) := Lib.hid (by rw [cleanT]; simp)
  have o0 := fun (W : World) (a : Addr) (m : Mode) (x : Nat) => run_store Tryz.prog W a (.float .f64 x) m rfl
  unfold termOf
  clear hbs hl hd hbn hbl hll hdl
  go_enter Tryz.func35, Tryz.ntmps35
  go_wp2
  refine bodyPost_ret (v := .agg #[.int .i64 3, .bool false, .int .i64 i, .float .f64 0, .string ⟨#[]⟩, .slice none 0 0, .int .u64 0, .slice none 0 0, .slice none 0 0, .string ⟨#[]⟩, .int .i64 0]) (by simp [results, Tryz.results35, go_sem]) rfl ?_
  rw [HC.out]
  exact ⟨[.int .i64 3, .bool false, .int .i64 i, .float .f64 0, .string ⟨#[]⟩, .slice none 0 0, .int .u64 0, .slice none 0 0, .slice none 0 0, .string ⟨#[]⟩, .int .i64 0], rfl, ⟨none, 0, none, 0, none, 0, rfl, hk, hi, by decide, by decide, ⟨fun _ => rfl, .inl rfl⟩, by decide, by decide, by decide, ⟨by decide, by decide⟩, ⟨by decide, .inl rfl⟩, ⟨by decide, .inl rfl⟩⟩, (((Below.refl _ _).alloc (Nat.le_refl _) _).alloc (by simp) _).alloc (by simp; omega) _⟩
set_option maxRecDepth 100000 in
set_option maxHeartbeats 1000000 in
theorem rclean_4 (b : Bool) (i : Int) (f : Nat) (t : ByteArray) (bs : List UInt8) (r : Int) (l : List Tm) (d : List (ByteArray × Tm)) (c : ByteArray) (v : Int) : RCleanC (.mk 4 b i f t bs r l d c v) := by
  rintro x w ⟨Ab, cb, Al, cl, Ad, cd, rfl, hk, hi, ht, hbl, ⟨hbn, hbs⟩, hr0, hr1, hc, hv, ⟨hll, hl⟩, ⟨hdl, hd⟩⟩
  have HC : Hid (cleanT (.mk 4 b i f t bs r l d c v) = .mk 4 false 0 f ⟨#[]⟩ [] 0 [] [] ⟨#[]⟩ 0) := Lib.hid (by rw [cleanT]; simp)
  have o0 := fun (W : World) (a : Addr) (m : Mode) (x : Nat) => run_store Tryz.prog W a (.float .f64 x) m rfl
  unfold termOf
  clear hbs hl hd hbn hbl hll hdl
  go_enter Tryz.func35, Tryz.ntmps35
  go_wp2
  refine bodyPost_ret (v := .agg #[.int .i64 4, .bool false, .int .i64 0, .float .f64 f, .string ⟨#[]⟩, .slice none 0 0, .int .u64 0, .slice none 0 0, .slice none 0 0, .string ⟨#[]⟩, .int .i64 0]) (by simp [results, Tryz.results35, go_sem]) rfl ?_
  rw [HC.out]
  exact ⟨[.int .i64 4, .bool false, .int .i64 0, .float .f64 f, .string ⟨#[]⟩, .slice none 0 0, .int .u64 0, .slice none 0 0, .slice none 0 0, .string ⟨#[]⟩, .int .i64 0], rfl, ⟨none, 0, none, 0, none, 0, rfl, hk, ⟨by decide, by decide⟩, by decide, by decide, ⟨fun _ => rfl, .inl rfl⟩, by decide, by decide, by decide, ⟨by decide, by decide⟩, ⟨by decide, .inl rfl⟩, ⟨by decide, .inl rfl⟩⟩, (((Below.refl _ _).alloc (Nat.le_refl _) _).alloc (by simp) _).alloc (by simp; omega) _⟩
set_option maxRecDepth 100000 in
set_option maxHeartbeats 1000000 in
theorem rclean_5 (b : Bool) (i : Int) (f : Nat) (t : ByteArray) (bs : List UInt8) (r : Int) (l : List Tm) (d : List (ByteArray × Tm)) (c : ByteArray) (v : Int) : RCleanC (.mk 5 b i f t bs r l d c v) := by
  rintro x w ⟨Ab, cb, Al, cl, Ad, cd, rfl, hk, hi, ht, hbl, ⟨hbn, hbs⟩, hr0, hr1, hc, hv, ⟨hll, hl⟩, ⟨hdl, hd⟩⟩
  have HC : Hid (cleanT (.mk 5 b i f t bs r l d c v) = .mk 5 false 0 0 t [] 0 [] [] ⟨#[]⟩ 0) := Lib.hid (by rw [cleanT]; simp)
  have o0 := fun (W : World) (a : Addr) (m : Mode) (x : Nat) => run_store Tryz.prog W a (.float .f64 x) m rfl
  unfold termOf
  clear hbs hl hd hbn hbl hll hdl
  go_enter Tryz.func35, Tryz.ntmps35
  go_wp2
  refine bodyPost_ret (v := .agg #[.int .i64 5, .bool false, .int .i64 0, .float .f64 0, .string t, .slice none 0 0, .int .u64 0, .slice none 0 0, .slice none 0 0, .string ⟨#[]⟩, .int .i64 0]) (by simp [results, Tryz.results35, go_sem]) rfl ?_
  rw [HC.out]
  exact ⟨[.int .i64 5, .bool false, .int .i64 0, .float .f64 0, .string t, .slice none 0 0, .int .u64 0, .slice none 0 0, .slice none 0 0, .string ⟨#[]⟩, .int .i64 0], rfl, ⟨none, 0, none, 0, none, 0, rfl, hk, ⟨by decide, by decide⟩, ht, by decide, ⟨fun _ => rfl, .inl rfl⟩, by decide, by decide, by decide, ⟨by decide, by decide⟩, ⟨by decide, .inl rfl⟩, ⟨by decide, .inl rfl⟩⟩, (((Below.refl _ _).alloc (Nat.le_refl _) _).alloc (by simp) _).alloc (by simp; omega) _⟩
set_option maxRecDepth 100000 in
set_option maxHeartbeats 1000000 in
theorem rclean_7 (b : Bool) (i : Int) (f : Nat) (t : ByteArray) (bs : List UInt8) (r : Int) (l : List Tm) (d : List (ByteArray × Tm)) (c : ByteArray) (v : Int) : RCleanC (.mk 7 b i f t bs r l d c v) := by
  rintro x w ⟨Ab, cb, Al, cl, Ad, cd, rfl, hk, hi, ht, hbl, ⟨hbn, hbs⟩, hr0, hr1, hc, hv, ⟨hll, hl⟩, ⟨hdl, hd⟩⟩
  have HC : Hid (cleanT (.mk 7 b i f t bs r l d c v) = .mk 7 false 0 0 ⟨#[]⟩ [] r [] [] ⟨#[]⟩ 0) := Lib.hid (by rw [cleanT]; simp)
  have o0 := fun (W : World) (a : Addr) (m : Mode) (x : Nat) => run_store Tryz.prog W a (.float .f64 x) m rfl
  unfold termOf
  clear hbs hl hd hbn hbl hll hdl
  go_enter Tryz.func35, Tryz.ntmps35
  go_wp2
  refine bodyPost_ret (v := .agg #[.int .i64 7, .bool false, .int .i64 0, .float .f64 0, .string ⟨#[]⟩, .slice none 0 0, .int .u64 r, .slice none 0 0, .slice none 0 0, .string ⟨#[]⟩, .int .i64 0]) (by simp [results, Tryz.results35, go_sem]) rfl ?_
  rw [HC.out]
  exact ⟨[.int .i64 7, .bool false, .int .i64 0, .float .f64 0, .string ⟨#[]⟩, .slice none 0 0, .int .u64 r, .slice none 0 0, .slice none 0 0, .string ⟨#[]⟩, .int .i64 0], rfl, ⟨none, 0, none, 0, none, 0, rfl, hk, ⟨by decide, by decide⟩, by decide, by decide, ⟨fun _ => rfl, .inl rfl⟩, hr0, hr1, by decide, ⟨by decide, by decide⟩, ⟨by decide, .inl rfl⟩, ⟨by decide, .inl rfl⟩⟩, (((Below.refl _ _).alloc (Nat.le_refl _) _).alloc (by simp) _).alloc (by simp; omega) _⟩
set_option maxRecDepth 100000 in
set_option maxHeartbeats 1000000 in
theorem rclean_other (k : Int) (n2 : k ≠ 2) (n3 : k ≠ 3) (n4 : k ≠ 4) (n5 : k ≠ 5) (n6 : k ≠ 6) (n7 : k ≠ 7) (n8 : k ≠ 8) (n9 : k ≠ 9) (n10 : k ≠ 10) (b : Bool) (i : Int) (f : Nat) (t : ByteArray) (bs : List UInt8) (r : Int) (l : List Tm) (d : List (ByteArray × Tm)) (c : ByteArray) (v : Int) : RCleanC (.mk k b i f t bs r l d c v) := by
  rintro x w ⟨Ab, cb, Al, cl, Ad, cd, rfl, hk, hi, ht, hbl, ⟨hbn, hbs⟩, hr0, hr1, hc, hv, ⟨hll, hl⟩, ⟨hdl, hd⟩⟩
  have HC : Hid (cleanT (.mk k b i f t bs r l d c v) = .mk k false 0 0 ⟨#[]⟩ [] 0 [] [] ⟨#[]⟩ 0) := Lib.hid (by rw [cleanT]; simp [n2, n3, n4, n5, n6, n7, n8, n9, n10])
  have o0 := fun (W : World) (a : Addr) (m : Mode) (x : Nat) => run_store Tryz.prog W a (.float .f64 x) m rfl
  unfold termOf
  clear hbs hl hd hbn hbl hll hdl
  have q2 : ((k : Int) == 2) = false := by rw [beq_eq_false_iff_ne]; exact n2
  have q3 : ((k : Int) == 3) = false := by rw [beq_eq_false_iff_ne]; exact n3
  have q4 : ((k : Int) == 4) = false := by rw [beq_eq_false_iff_ne]; exact n4
  have q5 : ((k : Int) == 5) = false := by rw [beq_eq_false_iff_ne]; exact n5
  have q6 : ((k : Int) == 6) = false := by rw [beq_eq_false_iff_ne]; exact n6
  have q7 : ((k : Int) == 7) = false := by rw [beq_eq_false_iff_ne]; exact n7
  have q8 : ((k : Int) == 8) = false := by rw [beq_eq_false_iff_ne]; exact n8
  have q9 : ((k : Int) == 9) = false := by rw [beq_eq_false_iff_ne]; exact n9
  have q10 : ((k : Int) == 10) = false := by rw [beq_eq_false_iff_ne]; exact n10
  clear n2 n3 n4 n5 n6 n7 n8 n9 n10
  go_enter Tryz.func35, Tryz.ntmps35
  go_wp2
  refine bodyPost_ret (v := .agg #[.int .i64 k, .bool false, .int .i64 0, .float .f64 0, .string ⟨#[]⟩, .slice none 0 0, .int .u64 0, .slice none 0 0, .slice none 0 0, .string ⟨#[]⟩, .int .i64 0]) (by simp [results, Tryz.results35, go_sem]) rfl ?_
  rw [HC.out]
  exact ⟨[.int .i64 k, .bool false, .int .i64 0, .float .f64 0, .string ⟨#[]⟩, .slice none 0 0, .int .u64 0, .slice none 0 0, .slice none 0 0, .string ⟨#[]⟩, .int .i64 0], rfl, ⟨none, 0, none, 0, none, 0, rfl, hk, ⟨by decide, by decide⟩, by decide, by decide, ⟨fun _ => rfl, .inl rfl⟩, by decide, by decide, by decide, ⟨by decide, by decide⟩, ⟨by decide, .inl rfl⟩, ⟨by decide, .inl rfl⟩⟩, (((Below.refl _ _).alloc (Nat.le_refl _) _).alloc (by simp) _).alloc (by simp; omega) _⟩
end Go.Proofs.YtobpkelblpdajaaGreatDoor
