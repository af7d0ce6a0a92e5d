/- Walks: the term of any value (mk.Plain): entries, dicts. -/
import Derived.Test.YtobpkelblpdajaaGreatDoorPR42
set_option linter.unusedVariables false
set_option linter.unusedSimpArgs false
set_option linter.unusedSectionVars false
namespace Go.Proofs.YtobpkelblpdajaaGreatDoor
open Go Go.RowKit
attribute [local go_sem] ta_no_bool ta_yes_bool ta_nil_bool ta_no_int64 ta_yes_int64 ta_nil_int64 ta_no_flt ta_yes_flt ta_nil_flt ta_no_str ta_yes_str ta_nil_str ta_no_byt ta_yes_byt ta_nil_byt ta_no_ref ta_yes_ref ta_nil_ref ta_no_lst ta_yes_lst ta_nil_lst ta_no_dct ta_yes_dct ta_nil_dct ta_no_rec ta_yes_rec ta_nil_rec
set_option maxRecDepth 100000 in
set_option maxHeartbeats 1000000 in
theorem entries_any (l : List (ByteArray × V)) (ih : ∀ p ∈ l, PlainC p.2) (A : Option Addr) (c d : Nat) (w : World) (hd : d ≤ 400) (hl : l.length ≤ 137438953472) (hr : l = [] ∨ ∃ b off, A = some ⟨b, off, none⟩ ∧ b < w.heap.size ∧ RdD w (fun b => b < w.heap.size) b off l) : Calls Tryz.prog 184 #[.slice A l.length c, .int .i64 d] w (EntsPost (plainD l (d + 1)) w) := by
  obtain ⟨i0, hi0, hz0, hz1, hz2⟩ := info_parts Tryz.infoEntry2
  have hwd : IntKind.i64.wrap ((d : Int) + 1) = (d : Int) + 1 := by rw [IntKind.wrap_i64]; omega
  have HA : Hid (Below w.heap.size w (w.alloc (.cells #[] 34))) := Lib.hid ((Below.refl _ _).alloc (Nat.le_refl _) _)
  have hsz : (w.alloc (.cells #[] 34)).heap.size = w.heap.size + 1 := by simp
  go_enter Tryz.func184, Tryz.ntmps184
  go_wp2
  go_loopw [5, 6] (fun y jx wr => ∃ (k : Nat), jx = .int .i64 k ∧ k ≤ l.length ∧ Below w.heap.size w wr ∧ OwnR bearsE 34 (fun b => w.heap.size ≤ b) wr w.heap.size y (plainD (l.take k) (d + 1))) (fun _ jx _ => l.length - (intOf jx).toNat)
  case atStart =>
    refine ⟨0, rfl, by omega, HA.out, ?_⟩
    have := OwnR.empty (R := bearsE) (e := 34) (fun b => w.heap.size ≤ b) w w.heap.size (Nat.le_refl _)
    simpa [plainD] using this
  case round =>
    obtain ⟨k, rfl, hk, hb, hO⟩ := hrel
    have hz : w.heap.size ≤ wr.heap.size := hb.size
    by_cases hlt : k < l.length
    · obtain ⟨bk, off, rfl, hbB, hrd⟩ := hr.resolve_left (fun h => by rw [h] at hlt; simp at hlt)
      obtain ⟨p, hp⟩ : ∃ p, l[k]? = some p := ⟨_, List.getElem?_eq_getElem hlt⟩
      obtain ⟨hn, hns, v, hv, hvd⟩ := RdD.iff.1 hrd k p hp
      have hbk : bk < wr.heap.size := by omega
      have hn' := (hb.cell (p := ⟨bk, off + k * 2, none⟩) hbB).trans hn
      have hv' := (hb.cell (p := ⟨bk, off + k * 2 + 1, none⟩) hbB).trans hv
      have hvS : Rd wr w.heap.size p.2 v := Rd.below hvd hb
      have HP := Lib.hid (fun (W : World) (hW : Below w.heap.size wr W) (hz9 : w.heap.size ≤ W.heap.size) => ih p (List.mem_of_getElem? hp) v (d + 1) W (Rd.more hz9 _ _ (Rd.below hvS hW)) (by omega))
      rw [show ((d + 1 : Nat) : Int) = (d : Int) + 1 from rfl] at HP
      have hxl : (plainD (l.take k) (d + 1)).length = k := by rw [plainD_eq]; simp; omega
      have HT : Hid (plainD (l.take (k + 1)) (d + 1) = plainD (l.take k) (d + 1) ++ [(p.1, plainT p.2 (d + 1))]) := Lib.hid (by rw [plainD_eq, plainD_eq, List.take_add_one, hp]; simp)
      obtain ⟨A1, c1, rfl⟩ := hO.form
      rw [hxl]
      clear hv hn hvd hrd hp hvS hr
      go_wp2_with fail
      refine wp_region_heldI (fun W => Below w.heap.size wr W) [0, 1, 2, 3, 4, 5, 6, 7, 8, 9, 10, 11, 12] [13, 14, 15, 16, 17] (by kernel_rfl) (by kernel_rfl) (fun _ _ _ _ _ h => h) ?_ ?_
      · ((exact (Below.refl _ _).drew))
      simp only [pickI, List.getElem?_cons_succ, List.getElem?_cons_zero]
      repeat (refine HdS.step (fun K hK => ?_); go_simp; first | (refine hK _ ?_; clear hK K) | (apply Exists.intro; refine ⟨fun W hW => ?_, hK _ ?_⟩; (first | (intros; rfl) | ((have en := (hW.cell (p := ⟨bk, off + k * 2, none⟩) hbB).trans hn'; have ev := (hW.cell (p := ⟨bk, off + k * 2 + 1, none⟩) hbB).trans hv'; go_simp; rfl))); clear hK K))
      refine HdS.nil ?_
      refine SeqS.step (fun K hK => ?_)
      go_simp
      go_at_call 127
      refine (HP.out _ (Below.refl w.heap.size wr).drew (by show w.heap.size ≤ wr.heap.size; omega)).mono ?_
      rintro e w1 ⟨u, rfl, hu, hbw⟩
      have hbw' : Below wr.heap.size wr w1 := (Below.refl wr.heap.size wr).drew.trans hbw
      have hS1 : Below w.heap.size wr w1 := hbw'.mono hz
      refine hK _ _ hS1 ?_
      clear hK K
      have hz1 : wr.heap.size ≤ w1.heap.size := hbw'.size
      obtain ⟨u0, u1, u2, u3, u4, u5, u6, u7, u8, u9, u10, rfl, h1c⟩ := hu.eleven
      unfold termOf
      refine SeqS.step (fun K hK => ?_)
      go_simp
      refine hK _ _ hS1 ?_
      clear hK K
      have hba : Below w1.heap.size w1 (w1.alloc (.cells #[.string p.1, u0, u1, u2, u3, u4, u5, u6, u7, u8, u9, u10] 34)) := (Below.refl _ _).alloc (Nat.le_refl _) _
      have hS2 : Below w.heap.size wr (w1.alloc (.cells #[.string p.1, u0, u1, u2, u3, u4, u5, u6, u7, u8, u9, u10] 34)) := hS1.trans (hba.mono (by omega))
      refine SeqS.step (fun K hK => ?_)
      go_simp
      refine hK _ _ hS2 ?_
      clear hK K
      have hO2 := (hO.below hbw').below hba
      obtain ⟨xs0, hown0, _⟩ := hO
      rw [hxl] at hown0
      have hE : RdTE w1 (New wr w1) (p.1, plainT p.2 (d + 1)) [.string p.1, u0, u1, u2, u3, u4, u5, u6, u7, u8, u9, u10] := ⟨_, rfl, hns, hu⟩
      have hu2 := fresh_of_newR (R := bearsE) (F := fun b => w.heap.size ≤ b) (S := fun _ => False) (bearsE.more (fun b hb9 => .inr (show New wr w1 b from hb9)) _ _ hE) hba hz1 (fun b h => Nat.le_trans hz h) (fun b h => h.elim) hown0
      obtain ⟨xs, hown, hx⟩ := hO2
      rw [hxl] at hown
      rw [hxl] at hx
      have hz3 : w.heap.size ≤ (w1.alloc (.cells #[.string p.1, u0, u1, u2, u3, u4, u5, u6, u7, u8, u9, u10] 34)).heap.size := by simp; omega
      refine SeqS.plain rfl (fun K hK => ?_)
      refine wp_append_lies _ (.tmp 14) (.tmp 29) 27 rfl w.heap.size 34 i0 _ 12 168 Tryz.underlying27 hi0 hz0 (by assumption) hz2 rfl (by omega) (.slice A1 k c1) k xs rfl hown ⟨w1.heap.size, 0, none⟩ 1 1 [.string p.1, u0, u1, u2, u3, u4, u5, u6, u7, u8, u9, u10] rfl rfl (news_at rfl) (fun x hx9 => (List.mem_cons.1 hx9).elim (fun h9 => h9 ▸ rfl) (fun h9 => h1c x h9)) (by omega) (by simp only [maxLen]; omega) (by omega) hz3 _ rfl ?_
      intro g cap w2 hown2 hg2 hat hlt2
      have hO3 := OwnR.snoc (R := bearsE) hxl hown hx hu2 hown2 hg2 hat
      have hS3 : Below w.heap.size wr w2 := hS2.grown hg2 hz3 (fun j hj => (hown.lt j hj).1)
      refine hK _ _ hS3 ?_
      clear hK K
      refine SeqS.step (fun K hK => ?_)
      go_simp
      refine hK _ _ hS3 ?_
      clear hK K
      refine SeqS.nil ?_
      go_wp2
      refine ⟨⟨k + 1, rfl, hlt, hb.trans hS3, by rw [HT.out]; exact hO3⟩, ?_⟩
      simp [intOf]
      omega
    · obtain rfl : k = l.length := by omega
      rw [List.take_length] at hO
      obtain ⟨A2, c2, rfl, hR⟩ := hO.read
      clear hr ih
      go_wp2
      go_ret
      exact ⟨A2, c2, rfl, hR.more (fun b hb9 => ⟨by have := hb9.1; omega, hb9.2⟩), hb⟩
set_option maxRecDepth 100000 in
set_option maxHeartbeats 1000000 in
theorem plain_dict (l : List (ByteArray × V)) (ih : ∀ p ∈ l, PlainC p.2) (A : Option Addr) (c d : Nat) (w : World) (hd : d ≤ 400) (hl : l.length ≤ 137438953472) (hr : l = [] ∨ ∃ b off, A = some ⟨b, off, none⟩ ∧ b < w.heap.size ∧ RdD w (fun b => b < w.heap.size) b off l) : Calls Tryz.prog 127 #[.iface 41 (.slice A l.length c), .int .i64 d] w (TermPost (plainT (.dict l) d) w) := by
  have hT : plainT (.dict l) d = .mk 9 false 0 0 ⟨#[]⟩ [] 0 [] (plainD l (d + 1)) ⟨#[]⟩ 0 := by rw [plainT, if_neg (by omega)]
  rw [hT]
  have hq : decide ((400 : Int) < (d : Int)) = false := by simp; omega
  have o0 := fun (W : World) (a : Addr) (m : Mode) (x : Nat) => run_store Tryz.prog W a (.float .f64 x) m rfl
  have HA : Hid (Below w.heap.size w (w.alloc (.cells #[.int .i64 0, .bool false, .int .i64 0, .float .f64 0, .string ⟨#[]⟩, .slice none 0 0, .int .u64 0, .slice none 0 0, .slice none 0 0, .string ⟨#[]⟩, .int .i64 0] 29))) := Lib.hid ((Below.refl _ _).alloc (Nat.le_refl _) _)
  have hsz : (w.alloc (.cells #[.int .i64 0, .bool false, .int .i64 0, .float .f64 0, .string ⟨#[]⟩, .slice none 0 0, .int .u64 0, .slice none 0 0, .slice none 0 0, .string ⟨#[]⟩, .int .i64 0] 29)).heap.size = w.heap.size + 1 := by simp
  have hpl : (plainD l (d + 1)).length ≤ 137438953472 := by rw [plainD_eq]; simpa using hl
  have HE := Lib.hid (entries_any l ih A c d (w.alloc (.cells #[.int .i64 0, .bool false, .int .i64 0, .float .f64 0, .string ⟨#[]⟩, .slice none 0 0, .int .u64 0, .slice none 0 0, .slice none 0 0, .string ⟨#[]⟩, .int .i64 0] 29)) hd hl (hr.imp id (fun ⟨b, off, h1, h2, h3⟩ => ⟨b, off, h1, by rw [hsz]; omega, RdD.iff.2 (fun i x hx => by
    obtain ⟨a1, a2, v, a3, a4⟩ := RdD.iff.1 h3 i x hx
    exact ⟨(HA.out.cell (show b < _ from h2)).trans a1, a2, v, (HA.out.cell (show b < _ from h2)).trans a3, Rd.more (by rw [hsz]; omega) _ _ (Rd.below a4 HA.out)⟩)⟩)))
  clear hT hr
  go_enter Tryz.func127, Tryz.ntmps127
  go_wp2_with fail
  refine HE.out.mono ?_
  rintro e w1 ⟨A2, c2, rfl, hR, hb1⟩
  rw [hsz] at hb1
  have hsz2 : w.heap.size + 1 ≤ w1.heap.size := by have := hb1.size; rw [hsz] at this; exact this
  have cc0 : w1.cell? ⟨w.heap.size, 0, none⟩ = some (.int .i64 0) := (hb1.cell (p := ⟨w.heap.size, 0, none⟩) (show w.heap.size < w.heap.size + 1 by omega)).trans (by simp [go_sem])
  have ff0 : w1.frozen? ⟨w.heap.size, 0, none⟩ = false := (hb1.frozen (p := ⟨w.heap.size, 0, none⟩) (show w.heap.size < w.heap.size + 1 by omega)).trans (by simp [go_sem])
  have cc1 : w1.cell? ⟨w.heap.size, 1, none⟩ = some (.bool false) := (hb1.cell (p := ⟨w.heap.size, 1, none⟩) (show w.heap.size < w.heap.size + 1 by omega)).trans (by simp [go_sem])
  have ff1 : w1.frozen? ⟨w.heap.size, 1, none⟩ = false := (hb1.frozen (p := ⟨w.heap.size, 1, none⟩) (show w.heap.size < w.heap.size + 1 by omega)).trans (by simp [go_sem])
  have cc2 : w1.cell? ⟨w.heap.size, 2, none⟩ = some (.int .i64 0) := (hb1.cell (p := ⟨w.heap.size, 2, none⟩) (show w.heap.size < w.heap.size + 1 by omega)).trans (by simp [go_sem])
  have ff2 : w1.frozen? ⟨w.heap.size, 2, none⟩ = false := (hb1.frozen (p := ⟨w.heap.size, 2, none⟩) (show w.heap.size < w.heap.size + 1 by omega)).trans (by simp [go_sem])
  have cc3 : w1.cell? ⟨w.heap.size, 3, none⟩ = some (.float .f64 0) := (hb1.cell (p := ⟨w.heap.size, 3, none⟩) (show w.heap.size < w.heap.size + 1 by omega)).trans (by simp [go_sem])
  have ff3 : w1.frozen? ⟨w.heap.size, 3, none⟩ = false := (hb1.frozen (p := ⟨w.heap.size, 3, none⟩) (show w.heap.size < w.heap.size + 1 by omega)).trans (by simp [go_sem])
  have cc4 : w1.cell? ⟨w.heap.size, 4, none⟩ = some (.string ⟨#[]⟩) := (hb1.cell (p := ⟨w.heap.size, 4, none⟩) (show w.heap.size < w.heap.size + 1 by omega)).trans (by simp [go_sem])
  have ff4 : w1.frozen? ⟨w.heap.size, 4, none⟩ = false := (hb1.frozen (p := ⟨w.heap.size, 4, none⟩) (show w.heap.size < w.heap.size + 1 by omega)).trans (by simp [go_sem])
  have cc5 : w1.cell? ⟨w.heap.size, 5, none⟩ = some (.slice none 0 0) := (hb1.cell (p := ⟨w.heap.size, 5, none⟩) (show w.heap.size < w.heap.size + 1 by omega)).trans (by simp [go_sem])
  have ff5 : w1.frozen? ⟨w.heap.size, 5, none⟩ = false := (hb1.frozen (p := ⟨w.heap.size, 5, none⟩) (show w.heap.size < w.heap.size + 1 by omega)).trans (by simp [go_sem])
  have cc6 : w1.cell? ⟨w.heap.size, 6, none⟩ = some (.int .u64 0) := (hb1.cell (p := ⟨w.heap.size, 6, none⟩) (show w.heap.size < w.heap.size + 1 by omega)).trans (by simp [go_sem])
  have ff6 : w1.frozen? ⟨w.heap.size, 6, none⟩ = false := (hb1.frozen (p := ⟨w.heap.size, 6, none⟩) (show w.heap.size < w.heap.size + 1 by omega)).trans (by simp [go_sem])
  have cc7 : w1.cell? ⟨w.heap.size, 7, none⟩ = some (.slice none 0 0) := (hb1.cell (p := ⟨w.heap.size, 7, none⟩) (show w.heap.size < w.heap.size + 1 by omega)).trans (by simp [go_sem])
  have ff7 : w1.frozen? ⟨w.heap.size, 7, none⟩ = false := (hb1.frozen (p := ⟨w.heap.size, 7, none⟩) (show w.heap.size < w.heap.size + 1 by omega)).trans (by simp [go_sem])
  have cc8 : w1.cell? ⟨w.heap.size, 8, none⟩ = some (.slice none 0 0) := (hb1.cell (p := ⟨w.heap.size, 8, none⟩) (show w.heap.size < w.heap.size + 1 by omega)).trans (by simp [go_sem])
  have ff8 : w1.frozen? ⟨w.heap.size, 8, none⟩ = false := (hb1.frozen (p := ⟨w.heap.size, 8, none⟩) (show w.heap.size < w.heap.size + 1 by omega)).trans (by simp [go_sem])
  have cc9 : w1.cell? ⟨w.heap.size, 9, none⟩ = some (.string ⟨#[]⟩) := (hb1.cell (p := ⟨w.heap.size, 9, none⟩) (show w.heap.size < w.heap.size + 1 by omega)).trans (by simp [go_sem])
  have ff9 : w1.frozen? ⟨w.heap.size, 9, none⟩ = false := (hb1.frozen (p := ⟨w.heap.size, 9, none⟩) (show w.heap.size < w.heap.size + 1 by omega)).trans (by simp [go_sem])
  have cc10 : w1.cell? ⟨w.heap.size, 10, none⟩ = some (.int .i64 0) := (hb1.cell (p := ⟨w.heap.size, 10, none⟩) (show w.heap.size < w.heap.size + 1 by omega)).trans (by simp [go_sem])
  have ff10 : w1.frozen? ⟨w.heap.size, 10, none⟩ = false := (hb1.frozen (p := ⟨w.heap.size, 10, none⟩) (show w.heap.size < w.heap.size + 1 by omega)).trans (by simp [go_sem])
  go_wp2
  (try simp only [Exit.inBlock, Exit.then]); refine bodyPost_ret (v := .agg #[.int .i64 9, .bool false, .int .i64 0, .float .f64 0, .string ⟨#[]⟩, .slice none 0 0, .int .u64 0, .slice none 0 0, .slice A2 (plainD l (d + 1)).length c2, .string ⟨#[]⟩, .int .i64 0]) (by simp [results, Tryz.results127, go_sem, cc0, cc1, cc2, cc3, cc4, cc5, cc6, cc7, cc8, cc9, cc10]) rfl ?_
  have hsz8 : (((((((((((w1.setCell ⟨w.heap.size, 0, none⟩ (.int .i64 9)).setCell ⟨w.heap.size, 1, none⟩ (.bool false)).setCell ⟨w.heap.size, 2, none⟩ (.int .i64 0)).setCell ⟨w.heap.size, 3, none⟩ (.float .f64 0)).setCell ⟨w.heap.size, 4, none⟩ (.string ⟨#[]⟩)).setCell ⟨w.heap.size, 5, none⟩ (.slice none 0 0)).setCell ⟨w.heap.size, 6, none⟩ (.int .u64 0)).setCell ⟨w.heap.size, 7, none⟩ (.slice none 0 0)).setCell ⟨w.heap.size, 8, none⟩ (.slice A2 (plainD l (d + 1)).length c2)).setCell ⟨w.heap.size, 9, none⟩ (.string ⟨#[]⟩)).setCell ⟨w.heap.size, 10, none⟩ (.int .i64 0)).heap.size = w1.heap.size := by simp
  have hkeep : ∀ p : Addr, p.block ≠ w.heap.size → (((((((((((w1.setCell ⟨w.heap.size, 0, none⟩ (.int .i64 9)).setCell ⟨w.heap.size, 1, none⟩ (.bool false)).setCell ⟨w.heap.size, 2, none⟩ (.int .i64 0)).setCell ⟨w.heap.size, 3, none⟩ (.float .f64 0)).setCell ⟨w.heap.size, 4, none⟩ (.string ⟨#[]⟩)).setCell ⟨w.heap.size, 5, none⟩ (.slice none 0 0)).setCell ⟨w.heap.size, 6, none⟩ (.int .u64 0)).setCell ⟨w.heap.size, 7, none⟩ (.slice none 0 0)).setCell ⟨w.heap.size, 8, none⟩ (.slice A2 (plainD l (d + 1)).length c2)).setCell ⟨w.heap.size, 9, none⟩ (.string ⟨#[]⟩)).setCell ⟨w.heap.size, 10, none⟩ (.int .i64 0)).cell? p = w1.cell? p := by
    intro p h1
    have g1 : ∀ o, (⟨w.heap.size, o, none⟩ : Addr) ≠ p := fun o h => h1 (by rw [← h])
    rw [World.cell?_setCell_other _ _ _ _ (g1 _), World.cell?_setCell_other _ _ _ _ (g1 _), World.cell?_setCell_other _ _ _ _ (g1 _), World.cell?_setCell_other _ _ _ _ (g1 _), World.cell?_setCell_other _ _ _ _ (g1 _), World.cell?_setCell_other _ _ _ _ (g1 _), World.cell?_setCell_other _ _ _ _ (g1 _), World.cell?_setCell_other _ _ _ _ (g1 _), World.cell?_setCell_other _ _ _ _ (g1 _), World.cell?_setCell_other _ _ _ _ (g1 _), World.cell?_setCell_other _ _ _ _ (g1 _)]
  have hbw : Below w.heap.size w w1 := HA.out.trans (hb1.mono (by omega))
  refine ⟨[.int .i64 9, .bool false, .int .i64 0, .float .f64 0, .string ⟨#[]⟩, .slice none 0 0, .int .u64 0, .slice none 0 0, .slice A2 (plainD l (d + 1)).length c2, .string ⟨#[]⟩, .int .i64 0], rfl, ⟨none, 0, none, 0, A2, c2, rfl, ⟨by decide, by decide⟩, ⟨by decide, by decide⟩, by decide, by decide, ⟨fun _ => rfl, .inl rfl⟩, by decide, by decide, by decide, ⟨by decide, by decide⟩, ⟨by decide, .inl rfl⟩, ⟨by omega, ?_⟩⟩, ?_⟩
  · exact rowsE_iff.1 (RowsAt.more (RowsAt.keep hR (fun p hp => hkeep p (by have := hp.1; rw [hsz] at this; omega))) (fun b hb9 => ⟨by have := hb9.1; rw [hsz] at this; omega, by rw [hsz8]; exact hb9.2⟩))
  · exact (((((((((((hbw.setCell (p := ⟨w.heap.size, 0, none⟩) (Nat.le_refl _) (.int .i64 9)).setCell (p := ⟨w.heap.size, 1, none⟩) (Nat.le_refl _) (.bool false)).setCell (p := ⟨w.heap.size, 2, none⟩) (Nat.le_refl _) (.int .i64 0)).setCell (p := ⟨w.heap.size, 3, none⟩) (Nat.le_refl _) (.float .f64 0)).setCell (p := ⟨w.heap.size, 4, none⟩) (Nat.le_refl _) (.string ⟨#[]⟩)).setCell (p := ⟨w.heap.size, 5, none⟩) (Nat.le_refl _) (.slice none 0 0)).setCell (p := ⟨w.heap.size, 6, none⟩) (Nat.le_refl _) (.int .u64 0)).setCell (p := ⟨w.heap.size, 7, none⟩) (Nat.le_refl _) (.slice none 0 0)).setCell (p := ⟨w.heap.size, 8, none⟩) (Nat.le_refl _) (.slice A2 (plainD l (d + 1)).length c2)).setCell (p := ⟨w.heap.size, 9, none⟩) (Nat.le_refl _) (.string ⟨#[]⟩)).setCell (p := ⟨w.heap.size, 10, none⟩) (Nat.le_refl _) (.int .i64 0))
end Go.Proofs.YtobpkelblpdajaaGreatDoor
