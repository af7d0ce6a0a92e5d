/- Walks: the term of any value (mk.Plain): lists. -/
import Derived.Test.YtobpkelblpdajaaGreatDoorPR41
set_option linter.unusedVariables false
set_option linter.unusedSimpArgs false
set_option linter.unusedSectionVars false
namespace Go.Proofs.YtobpkelblpdajaaGreatDoor
open Go Go.RowKit
attribute [local go_sem] ta_no_bool ta_yes_bool ta_nil_bool ta_no_int64 ta_yes_int64 ta_nil_int64 ta_no_flt ta_yes_flt ta_nil_flt ta_no_str ta_yes_str ta_nil_str ta_no_byt ta_yes_byt ta_nil_byt ta_no_ref ta_yes_ref ta_nil_ref ta_no_lst ta_yes_lst ta_nil_lst ta_no_dct ta_yes_dct ta_nil_dct ta_no_rec ta_yes_rec ta_nil_rec
set_option maxRecDepth 100000 in
set_option maxHeartbeats 1000000 in
theorem plain_list (l : List V) (ih : ∀ x ∈ l, PlainC x) (A : Option Addr) (c d : Nat) (w : World) (hd : d ≤ 400) (hl : l.length ≤ 137438953472) (hr : l = [] ∨ ∃ b off, A = some ⟨b, off, none⟩ ∧ b < w.heap.size ∧ RdL w (fun b => b < w.heap.size) b off l) : Calls Tryz.prog 127 #[.iface 43 (.slice A l.length c), .int .i64 d] w (TermPost (plainT (.list l) d) w) := by
  have hT : plainT (.list l) d = .mk 8 false 0 0 ⟨#[]⟩ [] 0 (plainL l (d + 1)) [] ⟨#[]⟩ 0 := by rw [plainT, if_neg (by omega)]
  rw [hT]
  obtain ⟨i0, hi0, hz0, hz1, hz2⟩ := info_parts Tryz.infoTerm2
  have hq : decide ((400 : Int) < (d : Int)) = false := by simp; omega
  have hwd : IntKind.i64.wrap ((d : Int) + 1) = (d : Int) + 1 := by rw [IntKind.wrap_i64]; omega
  have o0 := fun (W : World) (a : Addr) (m : Mode) (x : Nat) => run_store Tryz.prog W a (.float .f64 x) m rfl
  have HA : Hid (Below w.heap.size w ((w.alloc (.cells #[.int .i64 0, .bool false, .int .i64 0, .float .f64 0, .string ⟨#[]⟩, .slice none 0 0, .int .u64 0, .slice none 0 0, .slice none 0 0, .string ⟨#[]⟩, .int .i64 0] 29)).alloc (.cells #[.int .i64 8, .bool false, .int .i64 0, .float .f64 0, .string ⟨#[]⟩, .slice none 0 0, .int .u64 0, .slice none 0 0, .slice none 0 0, .string ⟨#[]⟩, .int .i64 0] 29))) := Lib.hid (((Below.refl _ _).alloc (Nat.le_refl _) _).alloc (by simp) _)
  have hsz : ((w.alloc (.cells #[.int .i64 0, .bool false, .int .i64 0, .float .f64 0, .string ⟨#[]⟩, .slice none 0 0, .int .u64 0, .slice none 0 0, .slice none 0 0, .string ⟨#[]⟩, .int .i64 0] 29)).alloc (.cells #[.int .i64 8, .bool false, .int .i64 0, .float .f64 0, .string ⟨#[]⟩, .slice none 0 0, .int .u64 0, .slice none 0 0, .slice none 0 0, .string ⟨#[]⟩, .int .i64 0] 29)).heap.size = w.heap.size + 2 := by simp
  clear hT
  go_enter Tryz.func127, Tryz.ntmps127
  go_wp2_with fail
  go_loopw [14] (fun jx wr => ∃ (k : Nat) (y : Value), jx = .int .i64 k ∧ k ≤ l.length ∧ Below w.heap.size w wr ∧ w.heap.size + 2 ≤ wr.heap.size ∧ wr.cell? ⟨w.heap.size + 1, 7, none⟩ = some y ∧ OwnR bearsT 29 (fun b => w.heap.size + 2 ≤ b) wr (w.heap.size + 2) y (plainL (l.take k) (d + 1)) ∧
      Hid ((∀ o, o ≠ 7 → wr.cell? ⟨w.heap.size + 1, o, none⟩ = ((w.alloc (.cells #[.int .i64 0, .bool false, .int .i64 0, .float .f64 0, .string ⟨#[]⟩, .slice none 0 0, .int .u64 0, .slice none 0 0, .slice none 0 0, .string ⟨#[]⟩, .int .i64 0] 29)).alloc (.cells #[.int .i64 8, .bool false, .int .i64 0, .float .f64 0, .string ⟨#[]⟩, .slice none 0 0, .int .u64 0, .slice none 0 0, .slice none 0 0, .string ⟨#[]⟩, .int .i64 0] 29)).cell? ⟨w.heap.size + 1, o, none⟩) ∧ (∀ o, wr.cell? ⟨w.heap.size, o, none⟩ = ((w.alloc (.cells #[.int .i64 0, .bool false, .int .i64 0, .float .f64 0, .string ⟨#[]⟩, .slice none 0 0, .int .u64 0, .slice none 0 0, .slice none 0 0, .string ⟨#[]⟩, .int .i64 0] 29)).alloc (.cells #[.int .i64 8, .bool false, .int .i64 0, .float .f64 0, .string ⟨#[]⟩, .slice none 0 0, .int .u64 0, .slice none 0 0, .slice none 0 0, .string ⟨#[]⟩, .int .i64 0] 29)).cell? ⟨w.heap.size, o, none⟩) ∧ (∀ o, wr.frozen? ⟨w.heap.size + 1, o, none⟩ = ((w.alloc (.cells #[.int .i64 0, .bool false, .int .i64 0, .float .f64 0, .string ⟨#[]⟩, .slice none 0 0, .int .u64 0, .slice none 0 0, .slice none 0 0, .string ⟨#[]⟩, .int .i64 0] 29)).alloc (.cells #[.int .i64 8, .bool false, .int .i64 0, .float .f64 0, .string ⟨#[]⟩, .slice none 0 0, .int .u64 0, .slice none 0 0, .slice none 0 0, .string ⟨#[]⟩, .int .i64 0] 29)).frozen? ⟨w.heap.size + 1, o, none⟩) ∧ ∀ o, wr.frozen? ⟨w.heap.size, o, none⟩ = ((w.alloc (.cells #[.int .i64 0, .bool false, .int .i64 0, .float .f64 0, .string ⟨#[]⟩, .slice none 0 0, .int .u64 0, .slice none 0 0, .slice none 0 0, .string ⟨#[]⟩, .int .i64 0] 29)).alloc (.cells #[.int .i64 8, .bool false, .int .i64 0, .float .f64 0, .string ⟨#[]⟩, .slice none 0 0, .int .u64 0, .slice none 0 0, .slice none 0 0, .string ⟨#[]⟩, .int .i64 0] 29)).frozen? ⟨w.heap.size, o, none⟩)) (fun jx _ => l.length - (intOf jx).toNat)
  case atStart =>
    refine ⟨0, .slice none 0 0, rfl, by omega, HA.out, by rw [hsz]; omega, by simp [go_sem], OwnR.nil _ _ _, Lib.hid ⟨fun _ _ => rfl, fun _ => rfl, fun _ => rfl, fun _ => rfl⟩⟩
  case round =>
    obtain ⟨k, y, rfl, hk, hb, hz, hc7, hO, HC⟩ := hrel
    have hwl : w.heap.size < wr.heap.size := by omega
    have hwl1 : w.heap.size + 1 < wr.heap.size := by omega
    by_cases hlt : k < l.length
    · obtain ⟨bk, off, rfl, hbB, hrd⟩ := hr.resolve_left (fun h => by rw [h] at hlt; simp at hlt)
      obtain ⟨p, hp⟩ : ∃ p, l[k]? = some p := ⟨_, List.getElem?_eq_getElem hlt⟩
      obtain ⟨v, hv, hvd⟩ := RdL.iff.1 hrd k p hp
      have hbk : bk < wr.heap.size := by omega
      have hv' := (hb.cell (p := ⟨bk, off + k, none⟩) hbB).trans hv
      have hvS : Rd wr w.heap.size p v := Rd.below hvd hb
      have HP := Lib.hid (fun (W : World) (hW : Below w.heap.size wr W) (hz9 : w.heap.size ≤ W.heap.size) => ih p (List.mem_of_getElem? hp) v (d + 1) W (Rd.more hz9 _ _ (Rd.below hvS hW)) (by omega))
      rw [show ((d + 1 : Nat) : Int) = (d : Int) + 1 from rfl] at HP
      have hxl : (plainL (l.take k) (d + 1)).length = k := by rw [plainL_eq]; simp; omega
      have HT : Hid (plainL (l.take (k + 1)) (d + 1) = plainL (l.take k) (d + 1) ++ [plainT p (d + 1)]) := Lib.hid (by rw [plainL_eq, plainL_eq, List.take_add_one, hp]; simp)
      obtain ⟨A1, c1, rfl⟩ := hO.form
      rw [hxl] at hc7
      have hb2 : w.heap.size + 1 < w.heap.size + 2 := by omega
      have hb3 : bk < w.heap.size + 2 := by omega
      clear hv hvd hrd hp hvS hr
      go_wp2_with fail
      refine wp_region_heldL (fun W => Below (w.heap.size + 2) wr W) 12 [0, 1, 2, 3, 4, 5, 6, 7] [8, 9, 10, 11] (by kernel_rfl) (by rfl) (by rfl) (by kernel_rfl) (by kernel_rfl) (fun _ _ _ _ _ h => h) ?_ ?_
      · ((exact (Below.refl _ _).drew))
      simp only [List.take_succ_cons, List.take_zero, pickI, List.getElem?_cons_succ, List.getElem?_cons_zero]
      repeat (refine HdS.step (fun K hK => ?_); go_simp; first | (refine hK _ ?_; clear hK K) | (apply Exists.intro; refine ⟨fun W hW => ?_, hK _ ?_⟩; (first | (intros; rfl) | ((have e7 := (hW.cell (p := ⟨w.heap.size + 1, 7, none⟩) hb2).trans hc7; have ev := (hW.cell (p := ⟨bk, off + k, none⟩) hb3).trans hv'; go_simp; rfl))); clear hK K))
      refine HdS.nil ?_
      refine SeqS.step (fun K hK => ?_)
      go_simp
      go_at_call 127
      refine (HP.out _ (Below.refl w.heap.size wr).drew (by show w.heap.size ≤ wr.heap.size; omega)).mono ?_
      rintro e w1 ⟨u, rfl, hu, hbw⟩
      have hbw' : Below wr.heap.size wr w1 := (Below.refl wr.heap.size wr).drew.trans hbw
      have hS1 : Below (w.heap.size + 2) wr w1 := hbw'.mono hz
      refine hK _ _ hS1 ?_
      clear hK K
      have hz1 : wr.heap.size ≤ w1.heap.size := hbw'.size
      obtain ⟨u0, u1, u2, u3, u4, u5, u6, u7, u8, u9, u10, rfl, h1c⟩ := hu.eleven
      have hba : Below w1.heap.size w1 (w1.alloc (.cells #[u0, u1, u2, u3, u4, u5, u6, u7, u8, u9, u10] 29)) := (Below.refl _ _).alloc (Nat.le_refl _) _
      have hS2 : Below (w.heap.size + 2) wr (w1.alloc (.cells #[u0, u1, u2, u3, u4, u5, u6, u7, u8, u9, u10] 29)) := hS1.trans (hba.mono (by omega))
      unfold termOf
      refine SeqS.step (fun K hK => ?_)
      go_simp
      refine hK _ _ hS2 ?_
      clear hK K
      have hO2 := (hO.below hbw').below hba
      obtain ⟨xs0, hown0, _⟩ := hO
      rw [hxl] at hown0
      have hu2 := fresh_of_newR (R := bearsT) (F := fun b => w.heap.size + 2 ≤ b) (S := fun _ => False) (RdTS.more (fun b hb9 => .inr (show New wr w1 b from hb9)) _ _ hu) hba hz1 (fun b h => Nat.le_trans hz h) (fun b h => h.elim) hown0
      obtain ⟨xs, hown, hx⟩ := hO2
      rw [hxl] at hown
      rw [hxl] at hx
      have hz3 : w.heap.size + 2 ≤ (w1.alloc (.cells #[u0, u1, u2, u3, u4, u5, u6, u7, u8, u9, u10] 29)).heap.size := by simp; omega
      refine SeqS.plain rfl (fun K hK => ?_)
      refine wp_append_lies _ (.tmp 66) (.tmp 74) 26 rfl (w.heap.size + 2) 29 i0 _ 11 152 Tryz.underlying26 hi0 hz0 (by assumption) hz2 rfl (by omega) (.slice A1 k c1) k xs rfl hown ⟨w1.heap.size, 0, none⟩ 1 1 [u0, u1, u2, u3, u4, u5, u6, u7, u8, u9, u10] rfl rfl (news_at rfl) h1c (by omega) (by simp only [maxLen]; omega) (by omega) hz3 _ rfl ?_
      intro g cap w2 hown2 hg2 hat hlt2
      have hO3 := OwnR.snoc (R := bearsT) hxl hown hx hu2 hown2 hg2 hat
      have hS3 : Below (w.heap.size + 2) wr w2 := hS2.grown hg2 hz3 (fun j hj => (hown.lt j hj).1)
      refine hK _ _ hS3 ?_
      clear hK K
      refine SeqS.step (fun K hK => ?_)
      go_simp
      refine hK _ _ hS3 ?_
      clear hK K
      refine SeqS.nil ?_
      have hz2w : wr.heap.size ≤ w2.heap.size := hS3.size
      have hlt7 : w.heap.size + 1 < w2.heap.size := by omega
      have e7 : w2.cell? ⟨w.heap.size + 1, 7, none⟩ = some (.slice A1 k c1) := (hS3.cell (p := ⟨w.heap.size + 1, 7, none⟩) hb2).trans hc7
      have f7 : w2.frozen? ⟨w.heap.size + 1, 7, none⟩ = false := (hS3.frozen (p := ⟨w.heap.size + 1, 7, none⟩) hb2).trans ((HC.out.2.2.1 7).trans (by simp [go_sem]))
      have hst : Bes (w.heap.size + 1) w2 (w2.setCell ⟨w.heap.size + 1, 7, none⟩ (.slice (some ⟨g, 0, none⟩) (k + 1) cap)) := (Bes.refl _ _).set 7 _
      have hcs : (w2.setCell ⟨w.heap.size + 1, 7, none⟩ (.slice (some ⟨g, 0, none⟩) (k + 1) cap)).cell? ⟨w.heap.size + 1, 7, none⟩ = some (.slice (some ⟨g, 0, none⟩) (k + 1) cap) := World.cell?_setCell_same _ _ _ e7
      have hbs : Below w.heap.size w (w2.setCell ⟨w.heap.size + 1, 7, none⟩ (.slice (some ⟨g, 0, none⟩) (k + 1) cap)) := (hb.trans (hS3.mono (by omega))).setCell (p := ⟨w.heap.size + 1, 7, none⟩) (by show w.heap.size ≤ w.heap.size + 1; omega) _
      have hO4 : OwnR bearsT 29 (fun b => w.heap.size + 2 ≤ b) (w2.setCell ⟨w.heap.size + 1, 7, none⟩ (.slice (some ⟨g, 0, none⟩) (k + 1) cap)) (w.heap.size + 2) (.slice (some ⟨g, 0, none⟩) (k + 1) cap) (plainL (l.take (k + 1)) (d + 1)) := by
        rw [HT.out]; exact hO3.beside hst (by omega) (fun b hb9 => by omega)
      have HC2 : Hid ((∀ o, o ≠ 7 → (w2.setCell ⟨w.heap.size + 1, 7, none⟩ (.slice (some ⟨g, 0, none⟩) (k + 1) cap)).cell? ⟨w.heap.size + 1, o, none⟩ = ((w.alloc (.cells #[.int .i64 0, .bool false, .int .i64 0, .float .f64 0, .string ⟨#[]⟩, .slice none 0 0, .int .u64 0, .slice none 0 0, .slice none 0 0, .string ⟨#[]⟩, .int .i64 0] 29)).alloc (.cells #[.int .i64 8, .bool false, .int .i64 0, .float .f64 0, .string ⟨#[]⟩, .slice none 0 0, .int .u64 0, .slice none 0 0, .slice none 0 0, .string ⟨#[]⟩, .int .i64 0] 29)).cell? ⟨w.heap.size + 1, o, none⟩) ∧ (∀ o, (w2.setCell ⟨w.heap.size + 1, 7, none⟩ (.slice (some ⟨g, 0, none⟩) (k + 1) cap)).cell? ⟨w.heap.size, o, none⟩ = ((w.alloc (.cells #[.int .i64 0, .bool false, .int .i64 0, .float .f64 0, .string ⟨#[]⟩, .slice none 0 0, .int .u64 0, .slice none 0 0, .slice none 0 0, .string ⟨#[]⟩, .int .i64 0] 29)).alloc (.cells #[.int .i64 8, .bool false, .int .i64 0, .float .f64 0, .string ⟨#[]⟩, .slice none 0 0, .int .u64 0, .slice none 0 0, .slice none 0 0, .string ⟨#[]⟩, .int .i64 0] 29)).cell? ⟨w.heap.size, o, none⟩) ∧ (∀ o, (w2.setCell ⟨w.heap.size + 1, 7, none⟩ (.slice (some ⟨g, 0, none⟩) (k + 1) cap)).frozen? ⟨w.heap.size + 1, o, none⟩ = ((w.alloc (.cells #[.int .i64 0, .bool false, .int .i64 0, .float .f64 0, .string ⟨#[]⟩, .slice none 0 0, .int .u64 0, .slice none 0 0, .slice none 0 0, .string ⟨#[]⟩, .int .i64 0] 29)).alloc (.cells #[.int .i64 8, .bool false, .int .i64 0, .float .f64 0, .string ⟨#[]⟩, .slice none 0 0, .int .u64 0, .slice none 0 0, .slice none 0 0, .string ⟨#[]⟩, .int .i64 0] 29)).frozen? ⟨w.heap.size + 1, o, none⟩) ∧ ∀ o, (w2.setCell ⟨w.heap.size + 1, 7, none⟩ (.slice (some ⟨g, 0, none⟩) (k + 1) cap)).frozen? ⟨w.heap.size, o, none⟩ = ((w.alloc (.cells #[.int .i64 0, .bool false, .int .i64 0, .float .f64 0, .string ⟨#[]⟩, .slice none 0 0, .int .u64 0, .slice none 0 0, .slice none 0 0, .string ⟨#[]⟩, .int .i64 0] 29)).alloc (.cells #[.int .i64 8, .bool false, .int .i64 0, .float .f64 0, .string ⟨#[]⟩, .slice none 0 0, .int .u64 0, .slice none 0 0, .slice none 0 0, .string ⟨#[]⟩, .int .i64 0] 29)).frozen? ⟨w.heap.size, o, none⟩) := Lib.hid ⟨fun o ho => (World.cell?_setCell_other _ _ _ _ (by intro h; injection h with _ h; exact ho h.symm)).trans ((hS3.cell (p := ⟨w.heap.size + 1, o, none⟩) hb2).trans (HC.out.1 o ho)),
        fun o => (World.cell?_setCell_other _ _ _ _ (by intro h; injection h with h; omega)).trans ((hS3.cell (p := ⟨w.heap.size, o, none⟩) (show w.heap.size < w.heap.size + 2 by omega)).trans (HC.out.2.1 o)),
        fun o => (World.frozen?_setCell _ _ _ _).trans ((hS3.frozen (p := ⟨w.heap.size + 1, o, none⟩) hb2).trans (HC.out.2.2.1 o)),
        fun o => (World.frozen?_setCell _ _ _ _).trans ((hS3.frozen (p := ⟨w.heap.size, o, none⟩) (show w.heap.size < w.heap.size + 2 by omega)).trans (HC.out.2.2.2 o))⟩
      clear hO3 HC hx hown2
      unfold lastQ
      go_simp
      go_wp2
      refine ⟨⟨k + 1, _, rfl, hlt, hbs, by simpa using Nat.le_trans hz hz2w, hcs, hO4, HC2⟩, ?_⟩
      simp [intOf]
      omega
    · obtain rfl : k = l.length := by omega
      rw [List.take_length] at hO
      obtain ⟨A2, c2, rfl, hR⟩ := hO.read
      have hpl : (plainL l (d + 1)).length = l.length := by rw [plainL_eq, List.length_map]
      have y0 : wr.cell? ⟨w.heap.size + 1, 0, none⟩ = some (.int .i64 8) := (HC.out.1 0 (by omega)).trans (by simp [go_sem])
      have y1 : wr.cell? ⟨w.heap.size + 1, 1, none⟩ = some (.bool false) := (HC.out.1 1 (by omega)).trans (by simp [go_sem])
      have y2 : wr.cell? ⟨w.heap.size + 1, 2, none⟩ = some (.int .i64 0) := (HC.out.1 2 (by omega)).trans (by simp [go_sem])
      have y3 : wr.cell? ⟨w.heap.size + 1, 3, none⟩ = some (.float .f64 0) := (HC.out.1 3 (by omega)).trans (by simp [go_sem])
      have y4 : wr.cell? ⟨w.heap.size + 1, 4, none⟩ = some (.string ⟨#[]⟩) := (HC.out.1 4 (by omega)).trans (by simp [go_sem])
      have y5 : wr.cell? ⟨w.heap.size + 1, 5, none⟩ = some (.slice none 0 0) := (HC.out.1 5 (by omega)).trans (by simp [go_sem])
      have y6 : wr.cell? ⟨w.heap.size + 1, 6, none⟩ = some (.int .u64 0) := (HC.out.1 6 (by omega)).trans (by simp [go_sem])
      have y7 : wr.cell? ⟨w.heap.size + 1, 7, none⟩ = some (.slice A2 l.length c2) := by rw [← hpl]; exact hc7
      have y8 : wr.cell? ⟨w.heap.size + 1, 8, none⟩ = some (.slice none 0 0) := (HC.out.1 8 (by omega)).trans (by simp [go_sem])
      have y9 : wr.cell? ⟨w.heap.size + 1, 9, none⟩ = some (.string ⟨#[]⟩) := (HC.out.1 9 (by omega)).trans (by simp [go_sem])
      have y10 : wr.cell? ⟨w.heap.size + 1, 10, none⟩ = some (.int .i64 0) := (HC.out.1 10 (by omega)).trans (by simp [go_sem])
      have z0 : wr.cell? ⟨w.heap.size, 0, none⟩ = some (.int .i64 0) := (HC.out.2.1 0).trans (by simp [go_sem])
      have t0 : wr.frozen? ⟨w.heap.size, 0, none⟩ = false := (HC.out.2.2.2 0).trans (by simp [go_sem])
      have z1 : wr.cell? ⟨w.heap.size, 1, none⟩ = some (.bool false) := (HC.out.2.1 1).trans (by simp [go_sem])
      have t1 : wr.frozen? ⟨w.heap.size, 1, none⟩ = false := (HC.out.2.2.2 1).trans (by simp [go_sem])
      have z2 : wr.cell? ⟨w.heap.size, 2, none⟩ = some (.int .i64 0) := (HC.out.2.1 2).trans (by simp [go_sem])
      have t2 : wr.frozen? ⟨w.heap.size, 2, none⟩ = false := (HC.out.2.2.2 2).trans (by simp [go_sem])
      have z3 : wr.cell? ⟨w.heap.size, 3, none⟩ = some (.float .f64 0) := (HC.out.2.1 3).trans (by simp [go_sem])
      have t3 : wr.frozen? ⟨w.heap.size, 3, none⟩ = false := (HC.out.2.2.2 3).trans (by simp [go_sem])
      have z4 : wr.cell? ⟨w.heap.size, 4, none⟩ = some (.string ⟨#[]⟩) := (HC.out.2.1 4).trans (by simp [go_sem])
      have t4 : wr.frozen? ⟨w.heap.size, 4, none⟩ = false := (HC.out.2.2.2 4).trans (by simp [go_sem])
      have z5 : wr.cell? ⟨w.heap.size, 5, none⟩ = some (.slice none 0 0) := (HC.out.2.1 5).trans (by simp [go_sem])
      have t5 : wr.frozen? ⟨w.heap.size, 5, none⟩ = false := (HC.out.2.2.2 5).trans (by simp [go_sem])
      have z6 : wr.cell? ⟨w.heap.size, 6, none⟩ = some (.int .u64 0) := (HC.out.2.1 6).trans (by simp [go_sem])
      have t6 : wr.frozen? ⟨w.heap.size, 6, none⟩ = false := (HC.out.2.2.2 6).trans (by simp [go_sem])
      have z7 : wr.cell? ⟨w.heap.size, 7, none⟩ = some (.slice none 0 0) := (HC.out.2.1 7).trans (by simp [go_sem])
      have t7 : wr.frozen? ⟨w.heap.size, 7, none⟩ = false := (HC.out.2.2.2 7).trans (by simp [go_sem])
      have z8 : wr.cell? ⟨w.heap.size, 8, none⟩ = some (.slice none 0 0) := (HC.out.2.1 8).trans (by simp [go_sem])
      have t8 : wr.frozen? ⟨w.heap.size, 8, none⟩ = false := (HC.out.2.2.2 8).trans (by simp [go_sem])
      have z9 : wr.cell? ⟨w.heap.size, 9, none⟩ = some (.string ⟨#[]⟩) := (HC.out.2.1 9).trans (by simp [go_sem])
      have t9 : wr.frozen? ⟨w.heap.size, 9, none⟩ = false := (HC.out.2.2.2 9).trans (by simp [go_sem])
      have z10 : wr.cell? ⟨w.heap.size, 10, none⟩ = some (.int .i64 0) := (HC.out.2.1 10).trans (by simp [go_sem])
      have t10 : wr.frozen? ⟨w.heap.size, 10, none⟩ = false := (HC.out.2.2.2 10).trans (by simp [go_sem])
      have hsz8 : (((((((((((wr.setCell ⟨w.heap.size, 0, none⟩ (.int .i64 8)).setCell ⟨w.heap.size, 1, none⟩ (.bool false)).setCell ⟨w.heap.size, 2, none⟩ (.int .i64 0)).setCell ⟨w.heap.size, 3, none⟩ (.float .f64 0)).setCell ⟨w.heap.size, 4, none⟩ (.string ⟨#[]⟩)).setCell ⟨w.heap.size, 5, none⟩ (.slice none 0 0)).setCell ⟨w.heap.size, 6, none⟩ (.int .u64 0)).setCell ⟨w.heap.size, 7, none⟩ (.slice A2 l.length c2)).setCell ⟨w.heap.size, 8, none⟩ (.slice none 0 0)).setCell ⟨w.heap.size, 9, none⟩ (.string ⟨#[]⟩)).setCell ⟨w.heap.size, 10, none⟩ (.int .i64 0)).heap.size = wr.heap.size := by simp
      clear hr ih HC hc7
      go_wp2
      (try simp only [Exit.inBlock, Exit.then]); refine bodyPost_ret (v := .agg #[.int .i64 8, .bool false, .int .i64 0, .float .f64 0, .string ⟨#[]⟩, .slice none 0 0, .int .u64 0, .slice A2 l.length c2, .slice none 0 0, .string ⟨#[]⟩, .int .i64 0]) (by simp [results, Tryz.results127, go_sem, z0, z1, z2, z3, z4, z5, z6, z7, z8, z9, z10]) rfl ?_
      have hkeep : ∀ p : Addr, p.block ≠ w.heap.size → (((((((((((wr.setCell ⟨w.heap.size, 0, none⟩ (.int .i64 8)).setCell ⟨w.heap.size, 1, none⟩ (.bool false)).setCell ⟨w.heap.size, 2, none⟩ (.int .i64 0)).setCell ⟨w.heap.size, 3, none⟩ (.float .f64 0)).setCell ⟨w.heap.size, 4, none⟩ (.string ⟨#[]⟩)).setCell ⟨w.heap.size, 5, none⟩ (.slice none 0 0)).setCell ⟨w.heap.size, 6, none⟩ (.int .u64 0)).setCell ⟨w.heap.size, 7, none⟩ (.slice A2 l.length c2)).setCell ⟨w.heap.size, 8, none⟩ (.slice none 0 0)).setCell ⟨w.heap.size, 9, none⟩ (.string ⟨#[]⟩)).setCell ⟨w.heap.size, 10, none⟩ (.int .i64 0)).cell? p = wr.cell? p := by
        intro p h1
        have g1 : ∀ o, (⟨w.heap.size, o, none⟩ : Addr) ≠ p := fun o h => h1 (by rw [← h])
        rw [World.cell?_setCell_other _ _ _ _ (g1 _), World.cell?_setCell_other _ _ _ _ (g1 _), World.cell?_setCell_other _ _ _ _ (g1 _), World.cell?_setCell_other _ _ _ _ (g1 _), World.cell?_setCell_other _ _ _ _ (g1 _), World.cell?_setCell_other _ _ _ _ (g1 _), World.cell?_setCell_other _ _ _ _ (g1 _), World.cell?_setCell_other _ _ _ _ (g1 _), World.cell?_setCell_other _ _ _ _ (g1 _), World.cell?_setCell_other _ _ _ _ (g1 _), World.cell?_setCell_other _ _ _ _ (g1 _)]
      refine ⟨[.int .i64 8, .bool false, .int .i64 0, .float .f64 0, .string ⟨#[]⟩, .slice none 0 0, .int .u64 0, .slice A2 l.length c2, .slice none 0 0, .string ⟨#[]⟩, .int .i64 0], rfl, ⟨none, 0, A2, c2, none, 0, by rw [hpl]; rfl, ⟨by decide, by decide⟩, ⟨by decide, by decide⟩, by decide, by decide, ⟨fun _ => rfl, .inl rfl⟩, by decide, by decide, by decide, ⟨by decide, by decide⟩, ⟨by rw [hpl]; omega, ?_⟩, ⟨by decide, .inl rfl⟩⟩, ?_⟩
      · exact rowsT_iff.1 (RowsAt.more (RowsAt.keep hR (fun p hp => hkeep p (by have := hp.1; omega))) (fun b hb9 => ⟨by have := hb9.1; omega, by rw [hsz8]; exact hb9.2⟩))
      · exact (((((((((((hb.setCell (p := ⟨w.heap.size, 0, none⟩) (Nat.le_refl _) (.int .i64 8)).setCell (p := ⟨w.heap.size, 1, none⟩) (Nat.le_refl _) (.bool false)).setCell (p := ⟨w.heap.size, 2, none⟩) (Nat.le_refl _) (.int .i64 0)).setCell (p := ⟨w.heap.size, 3, none⟩) (Nat.le_refl _) (.float .f64 0)).setCell (p := ⟨w.heap.size, 4, none⟩) (Nat.le_refl _) (.string ⟨#[]⟩)).setCell (p := ⟨w.heap.size, 5, none⟩) (Nat.le_refl _) (.slice none 0 0)).setCell (p := ⟨w.heap.size, 6, none⟩) (Nat.le_refl _) (.int .u64 0)).setCell (p := ⟨w.heap.size, 7, none⟩) (Nat.le_refl _) (.slice A2 l.length c2)).setCell (p := ⟨w.heap.size, 8, none⟩) (Nat.le_refl _) (.slice none 0 0)).setCell (p := ⟨w.heap.size, 9, none⟩) (Nat.le_refl _) (.string ⟨#[]⟩)).setCell (p := ⟨w.heap.size, 10, none⟩) (Nat.le_refl _) (.int .i64 0))
end Go.Proofs.YtobpkelblpdajaaGreatDoor
