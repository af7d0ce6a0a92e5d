/- Walks: the document's Clean: lists. -/
import Derived.Test.YtobpkelblpdajaaGreatDoorPR44
import Derived.Test.YtobpkelblpdajaaGreatDoorPR42
import Derived.Test.YtobpkelblpdajaaGreatDoorPR43
set_option linter.unusedVariables false
set_option linter.unusedSimpArgs false
set_option linter.unusedSectionVars false
namespace Go.Proofs.YtobpkelblpdajaaGreatDoor
open Go Go.RowKit
theorem cleanTL_eq (l : List Tm) : cleanTL l = l.map cleanT := by
  induction l with
  | nil => rfl
  | cons x r ih => simp [cleanTL, ih]
theorem cleanTD_eq (l : List (ByteArray × Tm)) : cleanTD l = l.map fun p => (p.1, cleanT p.2) := by
  induction l with
  | nil => rfl
  | cons x r ih => obtain ⟨n, x⟩ := x; simp [cleanTD, ih]
set_option maxRecDepth 100000 in
set_option maxHeartbeats 4000000 in
theorem rclean_8 (b : Bool) (i : Int) (f : Nat) (t : ByteArray) (bs : List UInt8) (r : Int) (l : List Tm) (d : List (ByteArray × Tm)) (c : ByteArray) (v : Int) (ih : ∀ x ∈ l, RCleanC x) : RCleanC (.mk 8 b i f t bs r l d c v) := by
  rintro x w ⟨Ab, cb, Al, cl, Ad, cd, rfl, hk, hi, ht, hbl, ⟨hbn, hbs⟩, hr0, hr1, hc, hv, ⟨hll, hl⟩, ⟨hdl, hd⟩⟩
  have HT : Hid (cleanT (.mk 8 b i f t bs r l d c v) = .mk 8 false 0 0 ⟨#[]⟩ [] 0 (cleanTL l) [] ⟨#[]⟩ 0) := Lib.hid (by rw [cleanT]; simp)
  rw [HT.out]
  clear HT
  obtain ⟨i0, hi0, hz0, hz1, hz2⟩ := info_parts Tryz.infoTerm2
  have o0 := fun (W : World) (a : Addr) (m : Mode) (x : Nat) => run_store Tryz.prog W a (.float .f64 x) m rfl
  unfold termOf
  clear hbs hd hbn hbl hdl
  have HA : Hid (Below w.heap.size w (((w.alloc (.cells #[.int .i64 8, .bool b, .int .i64 i, .float .f64 f, .string t, .slice Ab bs.length cb, .int .u64 r, .slice Al l.length cl, .slice Ad d.length cd, .string c, .int .i64 v] 29)).alloc (.cells #[.int .i64 0, .bool false, .int .i64 0, .float .f64 0, .string ⟨#[]⟩, .slice none 0 0, .int .u64 0, .slice none 0 0, .slice none 0 0, .string ⟨#[]⟩, .int .i64 0] 29)).alloc (.cells #[.int .i64 8, .bool false, .int .i64 0, .float .f64 0, .string ⟨#[]⟩, .slice none 0 0, .int .u64 0, .slice none 0 0, .slice none 0 0, .string ⟨#[]⟩, .int .i64 0] 29))) := Lib.hid ((((Below.refl _ _).alloc (Nat.le_refl _) _).alloc (by simp) _).alloc (by simp; omega) _)
  have HT7 : Hid ((((w.alloc (.cells #[.int .i64 8, .bool b, .int .i64 i, .float .f64 f, .string t, .slice Ab bs.length cb, .int .u64 r, .slice Al l.length cl, .slice Ad d.length cd, .string c, .int .i64 v] 29)).alloc (.cells #[.int .i64 0, .bool false, .int .i64 0, .float .f64 0, .string ⟨#[]⟩, .slice none 0 0, .int .u64 0, .slice none 0 0, .slice none 0 0, .string ⟨#[]⟩, .int .i64 0] 29)).alloc (.cells #[.int .i64 8, .bool false, .int .i64 0, .float .f64 0, .string ⟨#[]⟩, .slice none 0 0, .int .u64 0, .slice none 0 0, .slice none 0 0, .string ⟨#[]⟩, .int .i64 0] 29)).cell? ⟨w.heap.size, 7, none⟩ = some (.slice Al l.length cl)) := Lib.hid (by simp [go_sem])
  go_enter Tryz.func35, Tryz.ntmps35
  go_wp2_with fail
  go_loopw [4] (fun jx wr => ∃ (k : Nat) (y : Value), jx = .int .i64 k ∧ k ≤ l.length ∧ Below w.heap.size w wr ∧ w.heap.size + 1 + 1 + 1 ≤ wr.heap.size ∧ wr.cell? ⟨w.heap.size, 7, none⟩ = some (.slice Al l.length cl) ∧ wr.cell? ⟨w.heap.size + 1 + 1, 7, none⟩ = some y ∧ OwnR bearsT 29 (fun b => w.heap.size + 1 + 1 + 1 ≤ b) wr (w.heap.size + 1 + 1 + 1) y (cleanTL (l.take k)) ∧ Hid ((∀ o, o ≠ 7 → wr.cell? ⟨w.heap.size + 1 + 1, o, none⟩ = (((w.alloc (.cells #[.int .i64 8, .bool b, .int .i64 i, .float .f64 f, .string t, .slice Ab bs.length cb, .int .u64 r, .slice Al l.length cl, .slice Ad d.length cd, .string c, .int .i64 v] 29)).alloc (.cells #[.int .i64 0, .bool false, .int .i64 0, .float .f64 0, .string ⟨#[]⟩, .slice none 0 0, .int .u64 0, .slice none 0 0, .slice none 0 0, .string ⟨#[]⟩, .int .i64 0] 29)).alloc (.cells #[.int .i64 8, .bool false, .int .i64 0, .float .f64 0, .string ⟨#[]⟩, .slice none 0 0, .int .u64 0, .slice none 0 0, .slice none 0 0, .string ⟨#[]⟩, .int .i64 0] 29)).cell? ⟨w.heap.size + 1 + 1, o, none⟩) ∧ (∀ o, wr.cell? ⟨w.heap.size + 1, o, none⟩ = (((w.alloc (.cells #[.int .i64 8, .bool b, .int .i64 i, .float .f64 f, .string t, .slice Ab bs.length cb, .int .u64 r, .slice Al l.length cl, .slice Ad d.length cd, .string c, .int .i64 v] 29)).alloc (.cells #[.int .i64 0, .bool false, .int .i64 0, .float .f64 0, .string ⟨#[]⟩, .slice none 0 0, .int .u64 0, .slice none 0 0, .slice none 0 0, .string ⟨#[]⟩, .int .i64 0] 29)).alloc (.cells #[.int .i64 8, .bool false, .int .i64 0, .float .f64 0, .string ⟨#[]⟩, .slice none 0 0, .int .u64 0, .slice none 0 0, .slice none 0 0, .string ⟨#[]⟩, .int .i64 0] 29)).cell? ⟨w.heap.size + 1, o, none⟩) ∧ (∀ o, wr.frozen? ⟨w.heap.size + 1 + 1, o, none⟩ = (((w.alloc (.cells #[.int .i64 8, .bool b, .int .i64 i, .float .f64 f, .string t, .slice Ab bs.length cb, .int .u64 r, .slice Al l.length cl, .slice Ad d.length cd, .string c, .int .i64 v] 29)).alloc (.cells #[.int .i64 0, .bool false, .int .i64 0, .float .f64 0, .string ⟨#[]⟩, .slice none 0 0, .int .u64 0, .slice none 0 0, .slice none 0 0, .string ⟨#[]⟩, .int .i64 0] 29)).alloc (.cells #[.int .i64 8, .bool false, .int .i64 0, .float .f64 0, .string ⟨#[]⟩, .slice none 0 0, .int .u64 0, .slice none 0 0, .slice none 0 0, .string ⟨#[]⟩, .int .i64 0] 29)).frozen? ⟨w.heap.size + 1 + 1, o, none⟩) ∧ (∀ o, wr.frozen? ⟨w.heap.size + 1, o, none⟩ = (((w.alloc (.cells #[.int .i64 8, .bool b, .int .i64 i, .float .f64 f, .string t, .slice Ab bs.length cb, .int .u64 r, .slice Al l.length cl, .slice Ad d.length cd, .string c, .int .i64 v] 29)).alloc (.cells #[.int .i64 0, .bool false, .int .i64 0, .float .f64 0, .string ⟨#[]⟩, .slice none 0 0, .int .u64 0, .slice none 0 0, .slice none 0 0, .string ⟨#[]⟩, .int .i64 0] 29)).alloc (.cells #[.int .i64 8, .bool false, .int .i64 0, .float .f64 0, .string ⟨#[]⟩, .slice none 0 0, .int .u64 0, .slice none 0 0, .slice none 0 0, .string ⟨#[]⟩, .int .i64 0] 29)).frozen? ⟨w.heap.size + 1, o, none⟩))) (fun jx _ => l.length - (intOf jx).toNat)
  case atStart =>
    refine ⟨0, .slice none 0 0, rfl, by omega, HA.out, by simp, HT7.out, by simp [go_sem], OwnR.nil _ _ _, Lib.hid ⟨fun _ _ => rfl, fun _ => rfl, fun _ => rfl, fun _ => rfl⟩⟩
  case round =>
    obtain ⟨k, y, rfl, hk9, hb, hz, hT7, hc7, hO, HC⟩ := hrel
    have hwl0 : w.heap.size < wr.heap.size := by omega
    have hwl : w.heap.size + 1 < wr.heap.size := by omega
    have hwl1 : w.heap.size + 1 + 1 < wr.heap.size := by omega
    by_cases hlt : k < l.length
    · obtain ⟨bk, off, rfl, hbB, hrd⟩ := hl.resolve_left (fun h => by rw [h] at hlt; simp at hlt)
      obtain ⟨p, hp⟩ : ∃ p, l[k]? = some p := ⟨_, List.getElem?_eq_getElem hlt⟩
      obtain ⟨v9, hv9, hvd⟩ := RdTL.iff.1 hrd k p hp
      have hbk : bk < wr.heap.size := by omega
      have hv' := hv9.keep (fun q hq => hb.cell (show q.block < _ by rw [hq]; exact hbB))
      have hvS : RdT wr w.heap.size p v9 := RdT.below hvd hb
      have HP := Lib.hid (fun (W : World) (hW : Below w.heap.size wr W) (hz9 : w.heap.size ≤ W.heap.size) => ih p (List.mem_of_getElem? hp) v9 W (RdT.more hz9 _ _ (RdT.below hvS hW)))
      have hxl : (cleanTL (l.take k)).length = k := by rw [cleanTL_eq]; simp; omega
      have HT : Hid (cleanTL (l.take (k + 1)) = cleanTL (l.take k) ++ [cleanT p]) := Lib.hid (by rw [cleanTL_eq, cleanTL_eq, List.take_add_one, hp]; simp)
      obtain ⟨A1, c1, rfl⟩ := hO.form
      rw [hxl] at hc7
      have hb2 : w.heap.size + 1 + 1 < w.heap.size + 1 + 1 + 1 := by omega
      have hb3 : bk < w.heap.size + 1 + 1 + 1 := by omega
      have hb4 : w.heap.size < w.heap.size + 1 + 1 + 1 := by omega
      obtain ⟨n0, n1, n2, n3, n4, n5, n6, n7, n8, n9, n10, rfl, -⟩ := RdTS.eleven hvd
      unfold termOf at HP
      have HV := Lib.hid hv'
      clear hv9 hvd hrd hp hvS hl hv'
      go_wp2_with fail
      refine wp_region_heldL (fun W => Below (w.heap.size + 1 + 1 + 1) wr W) 11 [0, 1, 2, 3, 4, 5, 6] [7, 8, 9, 10] (by kernel_rfl) (by rfl) (by rfl) (by kernel_rfl) (by kernel_rfl) (fun _ _ _ _ _ h => h) ?_ ?_
      · ((exact (Below.refl _ _).drew))
      simp only [List.take_succ_cons, List.take_zero, pickI, List.getElem?_cons_succ, List.getElem?_cons_zero]
      repeat (refine HdS.step (fun K hK => ?_); go_simp; first | (refine hK _ ?_; clear hK K) | (apply Exists.intro; refine ⟨fun W hW => ?_, hK _ ?_⟩; (first | (intros; rfl) | ((have e7 := (hW.cell (p := ⟨w.heap.size + 1 + 1, 7, none⟩) hb2).trans hc7; have e8 := (hW.cell (p := ⟨w.heap.size, 7, none⟩) hb4).trans hT7; have ev := HV.out.keep (fun q hq => hW.cell (show q.block < _ by rw [hq]; exact hb3)); (have q0 := ev 0 _ rfl; have q1 := ev 1 _ rfl; have q2 := ev 2 _ rfl; have q3 := ev 3 _ rfl; have q4 := ev 4 _ rfl; have q5 := ev 5 _ rfl; have q6 := ev 6 _ rfl; have q7 := ev 7 _ rfl; have q8 := ev 8 _ rfl; have q9 := ev 9 _ rfl; have q10 := ev 10 _ rfl; simp only [Nat.add_zero] at q0); go_simp; rfl))); clear hK K))
      refine HdS.nil ?_
      refine SeqS.step (fun K hK => ?_)
      go_simp
      go_at_call 35
      refine (HP.out _ (Below.refl w.heap.size wr).drew (by show w.heap.size ≤ wr.heap.size; omega)).mono ?_
      rintro e w1 ⟨u, rfl, hu, hbw⟩
      have hbw' : Below wr.heap.size wr w1 := (Below.refl wr.heap.size wr).drew.trans hbw
      have hS1 : Below (w.heap.size + 1 + 1 + 1) wr w1 := hbw'.mono hz
      refine hK _ _ hS1 ?_
      clear hK K
      have hz1' : wr.heap.size ≤ w1.heap.size := hbw'.size
      obtain ⟨u0, u1, u2, u3, u4, u5, u6, u7, u8, u9, u10, rfl, h1c⟩ := hu.eleven
      have hba : Below w1.heap.size w1 (w1.alloc (.cells #[u0, u1, u2, u3, u4, u5, u6, u7, u8, u9, u10] 29)) := (Below.refl _ _).alloc (Nat.le_refl _) _
      have hS2 : Below (w.heap.size + 1 + 1 + 1) wr (w1.alloc (.cells #[u0, u1, u2, u3, u4, u5, u6, u7, u8, u9, u10] 29)) := hS1.trans (hba.mono (by omega))
      unfold termOf
      refine SeqS.step (fun K hK => ?_)
      go_simp
      refine hK _ _ hS2 ?_
      clear hK K
      have hO2 := (hO.below hbw').below hba
      obtain ⟨xs0, hown0, _⟩ := hO
      rw [hxl] at hown0
      have hu2 := fresh_of_newR (R := bearsT) (F := fun b => w.heap.size + 1 + 1 + 1 ≤ b) (S := fun _ => False) (RdTS.more (fun b hb9 => .inr (show New wr w1 b from hb9)) _ _ hu) hba hz1' (fun b h => Nat.le_trans hz h) (fun b h => h.elim) hown0
      obtain ⟨xs, hown, hx⟩ := hO2
      rw [hxl] at hown
      rw [hxl] at hx
      have hz3 : w.heap.size + 1 + 1 + 1 ≤ (w1.alloc (.cells #[u0, u1, u2, u3, u4, u5, u6, u7, u8, u9, u10] 29)).heap.size := by simp; omega
      refine SeqS.plain rfl (fun K hK => ?_)
      refine wp_append_lies _ (.tmp 52) (.tmp 59) 26 rfl (w.heap.size + 1 + 1 + 1) 29 i0 _ 11 152 Tryz.underlying26 hi0 hz0 (by assumption) hz2 rfl (by omega) (.slice A1 k c1) k xs rfl hown ⟨w1.heap.size, 0, none⟩ 1 1 [u0, u1, u2, u3, u4, u5, u6, u7, u8, u9, u10] rfl rfl (news_at rfl) h1c (by omega) (by simp only [maxLen]; omega) (by omega) hz3 _ rfl ?_
      intro g cap w2 hown2 hg2 hat hlt2
      have hO3 := OwnR.snoc (R := bearsT) hxl hown hx hu2 hown2 hg2 hat
      have hS3 : Below (w.heap.size + 1 + 1 + 1) wr w2 := hS2.grown hg2 hz3 (fun j hj => (hown.lt j hj).1)
      refine hK _ _ hS3 ?_
      clear hK K
      refine SeqS.step (fun K hK => ?_)
      go_simp
      refine hK _ _ hS3 ?_
      clear hK K
      refine SeqS.nil ?_
      have hz2w : wr.heap.size ≤ w2.heap.size := hS3.size
      have hlt7 : w.heap.size + 1 + 1 < w2.heap.size := by omega
      have e7 : w2.cell? ⟨w.heap.size + 1 + 1, 7, none⟩ = some (.slice A1 k c1) := (hS3.cell (p := ⟨w.heap.size + 1 + 1, 7, none⟩) hb2).trans hc7
      have f7 : w2.frozen? ⟨w.heap.size + 1 + 1, 7, none⟩ = false := (hS3.frozen (p := ⟨w.heap.size + 1 + 1, 7, none⟩) hb2).trans ((HC.out.2.2.1 7).trans (by simp [go_sem]))
      have hst : Bes (w.heap.size + 1 + 1) w2 (w2.setCell ⟨w.heap.size + 1 + 1, 7, none⟩ (.slice (some ⟨g, 0, none⟩) (k + 1) cap)) := (Bes.refl _ _).set 7 _
      have hcs : (w2.setCell ⟨w.heap.size + 1 + 1, 7, none⟩ (.slice (some ⟨g, 0, none⟩) (k + 1) cap)).cell? ⟨w.heap.size + 1 + 1, 7, none⟩ = some (.slice (some ⟨g, 0, none⟩) (k + 1) cap) := World.cell?_setCell_same _ _ _ e7
      have hct : (w2.setCell ⟨w.heap.size + 1 + 1, 7, none⟩ (.slice (some ⟨g, 0, none⟩) (k + 1) cap)).cell? ⟨w.heap.size, 7, none⟩ = some (.slice (some ⟨bk, off, none⟩) l.length cl) := (World.cell?_setCell_other _ _ _ _ (by intro h; injection h with h; omega)).trans ((hS3.cell (p := ⟨w.heap.size, 7, none⟩) hb4).trans hT7)
      have hbs : Below w.heap.size w (w2.setCell ⟨w.heap.size + 1 + 1, 7, none⟩ (.slice (some ⟨g, 0, none⟩) (k + 1) cap)) := (hb.trans (hS3.mono (by omega))).setCell (p := ⟨w.heap.size + 1 + 1, 7, none⟩) (by show w.heap.size ≤ w.heap.size + 1 + 1; omega) _
      have hO4 : OwnR bearsT 29 (fun b => w.heap.size + 1 + 1 + 1 ≤ b) (w2.setCell ⟨w.heap.size + 1 + 1, 7, none⟩ (.slice (some ⟨g, 0, none⟩) (k + 1) cap)) (w.heap.size + 1 + 1 + 1) (.slice (some ⟨g, 0, none⟩) (k + 1) cap) (cleanTL (l.take (k + 1))) := by
        rw [HT.out]; exact hO3.beside hst (by omega) (fun b hb9 => by omega)
      have HC2 : Hid ((∀ o, o ≠ 7 → (w2.setCell ⟨w.heap.size + 1 + 1, 7, none⟩ (.slice (some ⟨g, 0, none⟩) (k + 1) cap)).cell? ⟨w.heap.size + 1 + 1, o, none⟩ = (((w.alloc (.cells #[.int .i64 8, .bool b, .int .i64 i, .float .f64 f, .string t, .slice Ab bs.length cb, .int .u64 r, .slice (some ⟨bk, off, none⟩) l.length cl, .slice Ad d.length cd, .string c, .int .i64 v] 29)).alloc (.cells #[.int .i64 0, .bool false, .int .i64 0, .float .f64 0, .string ⟨#[]⟩, .slice none 0 0, .int .u64 0, .slice none 0 0, .slice none 0 0, .string ⟨#[]⟩, .int .i64 0] 29)).alloc (.cells #[.int .i64 8, .bool false, .int .i64 0, .float .f64 0, .string ⟨#[]⟩, .slice none 0 0, .int .u64 0, .slice none 0 0, .slice none 0 0, .string ⟨#[]⟩, .int .i64 0] 29)).cell? ⟨w.heap.size + 1 + 1, o, none⟩) ∧ (∀ o, (w2.setCell ⟨w.heap.size + 1 + 1, 7, none⟩ (.slice (some ⟨g, 0, none⟩) (k + 1) cap)).cell? ⟨w.heap.size + 1, o, none⟩ = (((w.alloc (.cells #[.int .i64 8, .bool b, .int .i64 i, .float .f64 f, .string t, .slice Ab bs.length cb, .int .u64 r, .slice (some ⟨bk, off, none⟩) l.length cl, .slice Ad d.length cd, .string c, .int .i64 v] 29)).alloc (.cells #[.int .i64 0, .bool false, .int .i64 0, .float .f64 0, .string ⟨#[]⟩, .slice none 0 0, .int .u64 0, .slice none 0 0, .slice none 0 0, .string ⟨#[]⟩, .int .i64 0] 29)).alloc (.cells #[.int .i64 8, .bool false, .int .i64 0, .float .f64 0, .string ⟨#[]⟩, .slice none 0 0, .int .u64 0, .slice none 0 0, .slice none 0 0, .string ⟨#[]⟩, .int .i64 0] 29)).cell? ⟨w.heap.size + 1, o, none⟩) ∧ (∀ o, (w2.setCell ⟨w.heap.size + 1 + 1, 7, none⟩ (.slice (some ⟨g, 0, none⟩) (k + 1) cap)).frozen? ⟨w.heap.size + 1 + 1, o, none⟩ = (((w.alloc (.cells #[.int .i64 8, .bool b, .int .i64 i, .float .f64 f, .string t, .slice Ab bs.length cb, .int .u64 r, .slice (some ⟨bk, off, none⟩) l.length cl, .slice Ad d.length cd, .string c, .int .i64 v] 29)).alloc (.cells #[.int .i64 0, .bool false, .int .i64 0, .float .f64 0, .string ⟨#[]⟩, .slice none 0 0, .int .u64 0, .slice none 0 0, .slice none 0 0, .string ⟨#[]⟩, .int .i64 0] 29)).alloc (.cells #[.int .i64 8, .bool false, .int .i64 0, .float .f64 0, .string ⟨#[]⟩, .slice none 0 0, .int .u64 0, .slice none 0 0, .slice none 0 0, .string ⟨#[]⟩, .int .i64 0] 29)).frozen? ⟨w.heap.size + 1 + 1, o, none⟩) ∧ (∀ o, (w2.setCell ⟨w.heap.size + 1 + 1, 7, none⟩ (.slice (some ⟨g, 0, none⟩) (k + 1) cap)).frozen? ⟨w.heap.size + 1, o, none⟩ = (((w.alloc (.cells #[.int .i64 8, .bool b, .int .i64 i, .float .f64 f, .string t, .slice Ab bs.length cb, .int .u64 r, .slice (some ⟨bk, off, none⟩) l.length cl, .slice Ad d.length cd, .string c, .int .i64 v] 29)).alloc (.cells #[.int .i64 0, .bool false, .int .i64 0, .float .f64 0, .string ⟨#[]⟩, .slice none 0 0, .int .u64 0, .slice none 0 0, .slice none 0 0, .string ⟨#[]⟩, .int .i64 0] 29)).alloc (.cells #[.int .i64 8, .bool false, .int .i64 0, .float .f64 0, .string ⟨#[]⟩, .slice none 0 0, .int .u64 0, .slice none 0 0, .slice none 0 0, .string ⟨#[]⟩, .int .i64 0] 29)).frozen? ⟨w.heap.size + 1, o, none⟩)) := Lib.hid ⟨
        fun o ho => (World.cell?_setCell_other _ _ _ _ (by intro h; injection h with _ h; exact ho h.symm)).trans ((hS3.cell (p := ⟨w.heap.size + 1 + 1, o, none⟩) hb2).trans (HC.out.1 o ho)),
        fun o => (World.cell?_setCell_other _ _ _ _ (by intro h; injection h with h; omega)).trans ((hS3.cell (p := ⟨w.heap.size + 1, o, none⟩) (show w.heap.size + 1 < w.heap.size + 1 + 1 + 1 by omega)).trans (HC.out.2.1 o)),
        fun o => (World.frozen?_setCell _ _ _ _).trans ((hS3.frozen (p := ⟨w.heap.size + 1 + 1, o, none⟩) hb2).trans (HC.out.2.2.1 o)),
        fun o => (World.frozen?_setCell _ _ _ _).trans ((hS3.frozen (p := ⟨w.heap.size + 1, o, none⟩) (show w.heap.size + 1 < w.heap.size + 1 + 1 + 1 by omega)).trans (HC.out.2.2.2 o))⟩
      clear hO3 HC hx hown2
      unfold lastQ
      go_simp
      go_wp2
      refine ⟨⟨k + 1, _, rfl, hlt, hbs, by simpa using Nat.le_trans hz hz2w, hct, hcs, hO4, HC2⟩, ?_⟩
      simp [intOf]
      omega
    · obtain rfl : k = l.length := by omega
      rw [List.take_length] at hO
      obtain ⟨A2, c2, rfl, hR⟩ := hO.read
      have hpl : (cleanTL l).length = l.length := by rw [cleanTL_eq, List.length_map]
      have y7 : wr.cell? ⟨w.heap.size + 1 + 1, 7, none⟩ = some (.slice A2 l.length c2) := by rw [← hpl]; exact hc7
      have y0 : wr.cell? ⟨w.heap.size + 1 + 1, 0, none⟩ = some (.int .i64 8) := (HC.out.1 0 (by omega)).trans (by simp [go_sem])
      have y1 : wr.cell? ⟨w.heap.size + 1 + 1, 1, none⟩ = some (.bool false) := (HC.out.1 1 (by omega)).trans (by simp [go_sem])
      have y2 : wr.cell? ⟨w.heap.size + 1 + 1, 2, none⟩ = some (.int .i64 0) := (HC.out.1 2 (by omega)).trans (by simp [go_sem])
      have y3 : wr.cell? ⟨w.heap.size + 1 + 1, 3, none⟩ = some (.float .f64 0) := (HC.out.1 3 (by omega)).trans (by simp [go_sem])
      have y4 : wr.cell? ⟨w.heap.size + 1 + 1, 4, none⟩ = some (.string ⟨#[]⟩) := (HC.out.1 4 (by omega)).trans (by simp [go_sem])
      have y5 : wr.cell? ⟨w.heap.size + 1 + 1, 5, none⟩ = some (.slice none 0 0) := (HC.out.1 5 (by omega)).trans (by simp [go_sem])
      have y6 : wr.cell? ⟨w.heap.size + 1 + 1, 6, none⟩ = some (.int .u64 0) := (HC.out.1 6 (by omega)).trans (by simp [go_sem])
      have y8 : wr.cell? ⟨w.heap.size + 1 + 1, 8, none⟩ = some (.slice none 0 0) := (HC.out.1 8 (by omega)).trans (by simp [go_sem])
      have y9 : wr.cell? ⟨w.heap.size + 1 + 1, 9, none⟩ = some (.string ⟨#[]⟩) := (HC.out.1 9 (by omega)).trans (by simp [go_sem])
      have y10 : wr.cell? ⟨w.heap.size + 1 + 1, 10, none⟩ = some (.int .i64 0) := (HC.out.1 10 (by omega)).trans (by simp [go_sem])
      have z0 : wr.cell? ⟨w.heap.size + 1, 0, none⟩ = some (.int .i64 0) := (HC.out.2.1 0).trans (by simp [go_sem])
      have t0 : wr.frozen? ⟨w.heap.size + 1, 0, none⟩ = false := (HC.out.2.2.2 0).trans (by simp [go_sem])
      have z1 : wr.cell? ⟨w.heap.size + 1, 1, none⟩ = some (.bool false) := (HC.out.2.1 1).trans (by simp [go_sem])
      have t1 : wr.frozen? ⟨w.heap.size + 1, 1, none⟩ = false := (HC.out.2.2.2 1).trans (by simp [go_sem])
      have z2 : wr.cell? ⟨w.heap.size + 1, 2, none⟩ = some (.int .i64 0) := (HC.out.2.1 2).trans (by simp [go_sem])
      have t2 : wr.frozen? ⟨w.heap.size + 1, 2, none⟩ = false := (HC.out.2.2.2 2).trans (by simp [go_sem])
      have z3 : wr.cell? ⟨w.heap.size + 1, 3, none⟩ = some (.float .f64 0) := (HC.out.2.1 3).trans (by simp [go_sem])
      have t3 : wr.frozen? ⟨w.heap.size + 1, 3, none⟩ = false := (HC.out.2.2.2 3).trans (by simp [go_sem])
      have z4 : wr.cell? ⟨w.heap.size + 1, 4, none⟩ = some (.string ⟨#[]⟩) := (HC.out.2.1 4).trans (by simp [go_sem])
      have t4 : wr.frozen? ⟨w.heap.size + 1, 4, none⟩ = false := (HC.out.2.2.2 4).trans (by simp [go_sem])
      have z5 : wr.cell? ⟨w.heap.size + 1, 5, none⟩ = some (.slice none 0 0) := (HC.out.2.1 5).trans (by simp [go_sem])
      have t5 : wr.frozen? ⟨w.heap.size + 1, 5, none⟩ = false := (HC.out.2.2.2 5).trans (by simp [go_sem])
      have z6 : wr.cell? ⟨w.heap.size + 1, 6, none⟩ = some (.int .u64 0) := (HC.out.2.1 6).trans (by simp [go_sem])
      have t6 : wr.frozen? ⟨w.heap.size + 1, 6, none⟩ = false := (HC.out.2.2.2 6).trans (by simp [go_sem])
      have z7 : wr.cell? ⟨w.heap.size + 1, 7, none⟩ = some (.slice none 0 0) := (HC.out.2.1 7).trans (by simp [go_sem])
      have t7 : wr.frozen? ⟨w.heap.size + 1, 7, none⟩ = false := (HC.out.2.2.2 7).trans (by simp [go_sem])
      have z8 : wr.cell? ⟨w.heap.size + 1, 8, none⟩ = some (.slice none 0 0) := (HC.out.2.1 8).trans (by simp [go_sem])
      have t8 : wr.frozen? ⟨w.heap.size + 1, 8, none⟩ = false := (HC.out.2.2.2 8).trans (by simp [go_sem])
      have z9 : wr.cell? ⟨w.heap.size + 1, 9, none⟩ = some (.string ⟨#[]⟩) := (HC.out.2.1 9).trans (by simp [go_sem])
      have t9 : wr.frozen? ⟨w.heap.size + 1, 9, none⟩ = false := (HC.out.2.2.2 9).trans (by simp [go_sem])
      have z10 : wr.cell? ⟨w.heap.size + 1, 10, none⟩ = some (.int .i64 0) := (HC.out.2.1 10).trans (by simp [go_sem])
      have t10 : wr.frozen? ⟨w.heap.size + 1, 10, none⟩ = false := (HC.out.2.2.2 10).trans (by simp [go_sem])
      clear hl ih HC hc7
      go_wp2
      (try simp only [Exit.inBlock, Exit.then]); refine bodyPost_ret (v := .agg #[.int .i64 8, .bool false, .int .i64 0, .float .f64 0, .string ⟨#[]⟩, .slice none 0 0, .int .u64 0, .slice A2 l.length c2, .slice none 0 0, .string ⟨#[]⟩, .int .i64 0]) (by simp [results, Tryz.results35, go_sem, z0, z1, z2, z3, z4, z5, z6, z7, z8, z9, z10]) rfl ?_
      have hsz8 : (((((((((((wr.setCell ⟨w.heap.size + 1, 0, none⟩ (.int .i64 8)).setCell ⟨w.heap.size + 1, 1, none⟩ (.bool false)).setCell ⟨w.heap.size + 1, 2, none⟩ (.int .i64 0)).setCell ⟨w.heap.size + 1, 3, none⟩ (.float .f64 0)).setCell ⟨w.heap.size + 1, 4, none⟩ (.string ⟨#[]⟩)).setCell ⟨w.heap.size + 1, 5, none⟩ (.slice none 0 0)).setCell ⟨w.heap.size + 1, 6, none⟩ (.int .u64 0)).setCell ⟨w.heap.size + 1, 7, none⟩ (.slice A2 l.length c2)).setCell ⟨w.heap.size + 1, 8, none⟩ (.slice none 0 0)).setCell ⟨w.heap.size + 1, 9, none⟩ (.string ⟨#[]⟩)).setCell ⟨w.heap.size + 1, 10, none⟩ (.int .i64 0)).heap.size = wr.heap.size := by simp
      have hkeep : ∀ p : Addr, p.block ≠ w.heap.size + 1 → (((((((((((wr.setCell ⟨w.heap.size + 1, 0, none⟩ (.int .i64 8)).setCell ⟨w.heap.size + 1, 1, none⟩ (.bool false)).setCell ⟨w.heap.size + 1, 2, none⟩ (.int .i64 0)).setCell ⟨w.heap.size + 1, 3, none⟩ (.float .f64 0)).setCell ⟨w.heap.size + 1, 4, none⟩ (.string ⟨#[]⟩)).setCell ⟨w.heap.size + 1, 5, none⟩ (.slice none 0 0)).setCell ⟨w.heap.size + 1, 6, none⟩ (.int .u64 0)).setCell ⟨w.heap.size + 1, 7, none⟩ (.slice A2 l.length c2)).setCell ⟨w.heap.size + 1, 8, none⟩ (.slice none 0 0)).setCell ⟨w.heap.size + 1, 9, none⟩ (.string ⟨#[]⟩)).setCell ⟨w.heap.size + 1, 10, none⟩ (.int .i64 0)).cell? p = wr.cell? p := by
        intro p h1
        have g1 : ∀ o, (⟨w.heap.size + 1, o, none⟩ : Addr) ≠ p := fun o h => h1 (by rw [← h])
        rw [World.cell?_setCell_other _ _ _ _ (g1 _), World.cell?_setCell_other _ _ _ _ (g1 _), World.cell?_setCell_other _ _ _ _ (g1 _), World.cell?_setCell_other _ _ _ _ (g1 _), World.cell?_setCell_other _ _ _ _ (g1 _), World.cell?_setCell_other _ _ _ _ (g1 _), World.cell?_setCell_other _ _ _ _ (g1 _), World.cell?_setCell_other _ _ _ _ (g1 _), World.cell?_setCell_other _ _ _ _ (g1 _), World.cell?_setCell_other _ _ _ _ (g1 _), World.cell?_setCell_other _ _ _ _ (g1 _)]
      refine ⟨[.int .i64 8, .bool false, .int .i64 0, .float .f64 0, .string ⟨#[]⟩, .slice none 0 0, .int .u64 0, .slice A2 l.length c2, .slice none 0 0, .string ⟨#[]⟩, .int .i64 0], rfl, ⟨none, 0, A2, c2, none, 0, by rw [hpl]; rfl, ⟨by decide, by decide⟩, ⟨by decide, by decide⟩, by decide, by decide, ⟨fun _ => rfl, .inl rfl⟩, by decide, by decide, by decide, ⟨by decide, by decide⟩, ⟨by rw [hpl]; omega, ?_⟩, ⟨by decide, .inl rfl⟩⟩, ?_⟩
      · exact rowsT_iff.1 (RowsAt.more (RowsAt.keep hR (fun p hp => hkeep p (by have := hp.1; omega))) (fun b hb9 => ⟨by have := hb9.1; omega, by rw [hsz8]; exact hb9.2⟩))
      · exact (((((((((((hb.setCell (p := ⟨w.heap.size + 1, 0, none⟩) (by show w.heap.size ≤ w.heap.size + 1; omega) (.int .i64 8)).setCell (p := ⟨w.heap.size + 1, 1, none⟩) (by show w.heap.size ≤ w.heap.size + 1; omega) (.bool false)).setCell (p := ⟨w.heap.size + 1, 2, none⟩) (by show w.heap.size ≤ w.heap.size + 1; omega) (.int .i64 0)).setCell (p := ⟨w.heap.size + 1, 3, none⟩) (by show w.heap.size ≤ w.heap.size + 1; omega) (.float .f64 0)).setCell (p := ⟨w.heap.size + 1, 4, none⟩) (by show w.heap.size ≤ w.heap.size + 1; omega) (.string ⟨#[]⟩)).setCell (p := ⟨w.heap.size + 1, 5, none⟩) (by show w.heap.size ≤ w.heap.size + 1; omega) (.slice none 0 0)).setCell (p := ⟨w.heap.size + 1, 6, none⟩) (by show w.heap.size ≤ w.heap.size + 1; omega) (.int .u64 0)).setCell (p := ⟨w.heap.size + 1, 7, none⟩) (by show w.heap.size ≤ w.heap.size + 1; omega) (.slice A2 l.length c2)).setCell (p := ⟨w.heap.size + 1, 8, none⟩) (by show w.heap.size ≤ w.heap.size + 1; omega) (.slice none 0 0)).setCell (p := ⟨w.heap.size + 1, 9, none⟩) (by show w.heap.size ≤ w.heap.size + 1; omega) (.string ⟨#[]⟩)).setCell (p := ⟨w.heap.size + 1, 10, none⟩) (by show w.heap.size ≤ w.heap.size + 1; omega) (.int .i64 0))
end Go.Proofs.YtobpkelblpdajaaGreatDoor
/- Walks: the document's Clean: entries, bytes, dicts, records. -/
namespace Go.Proofs.YtobpkelblpdajaaGreatDoor
open Go Go.RowKit
set_option maxRecDepth 100000 in
set_option maxHeartbeats 1000000 in
theorem cleaned_any (l : List (ByteArray × Tm)) (ih : ∀ p ∈ l, RCleanC p.2) (A : Option Addr) (c : Nat) (w : World) (hl : l.length * 168 ≤ 140737488351232) (hr : EntsAt w w.heap.size A l) : Calls Tryz.prog 72 #[.slice A l.length c] w (EntsPost (cleanTD l) w) := by
  obtain ⟨i0, hi0, hz0, hz1, hz2⟩ := info_parts Tryz.infoEntry2
  have HA : Hid (Below w.heap.size w (w.alloc (.cells #[] 34))) := Lib.hid ((Below.refl _ _).alloc (Nat.le_refl _) _)
  go_enter Tryz.func72, Tryz.ntmps72
  go_wp2
  go_loopw [3, 4] (fun y jx wr => ∃ (k : Nat), jx = .int .i64 k ∧ k ≤ l.length ∧ Below w.heap.size w wr ∧ OwnR bearsE 34 (fun b => w.heap.size ≤ b) wr w.heap.size y (cleanTD (l.take k))) (fun _ jx _ => l.length - (intOf jx).toNat)
  case atStart =>
    refine ⟨0, rfl, by omega, HA.out, ?_⟩
    have := OwnR.empty (R := bearsE) (e := 34) (fun b => w.heap.size ≤ b) w w.heap.size (Nat.le_refl _)
    simpa [cleanTD] using this
  case round =>
    obtain ⟨k, rfl, hk, hb, hO⟩ := hrel
    have hz : w.heap.size ≤ wr.heap.size := hb.size
    by_cases hlt : k < l.length
    · obtain ⟨bk, off, rfl, hbB, hrd⟩ := EntsAt.at_ hr hlt
      obtain ⟨p, hp⟩ : ∃ p, l[k]? = some p := ⟨_, List.getElem?_eq_getElem hlt⟩
      obtain ⟨hn, hns, v9, hv9, hvd⟩ := RdTD.iff.1 hrd k p hp
      have hbk : bk < wr.heap.size := by omega
      have hn' := (hb.cell (p := ⟨bk, off + k * 12, none⟩) hbB).trans hn
      have HV := Lib.hid (hv9.keep (fun q hq => hb.cell (show q.block < _ by rw [hq]; exact hbB)))
      have hvS : RdT wr w.heap.size p.2 v9 := RdT.below hvd hb
      have HP := Lib.hid (fun (W : World) (hW : Below w.heap.size wr W) (hz9 : w.heap.size ≤ W.heap.size) => ih p (List.mem_of_getElem? hp) v9 W (RdT.more hz9 _ _ (RdT.below hvS hW)))
      have hxl : (cleanTD (l.take k)).length = k := by rw [cleanTD_eq]; simp; omega
      have HT : Hid (cleanTD (l.take (k + 1)) = cleanTD (l.take k) ++ [(p.1, cleanT p.2)]) := Lib.hid (by rw [cleanTD_eq, cleanTD_eq, List.take_add_one, hp]; simp)
      obtain ⟨A1, c1, rfl⟩ := hO.form
      rw [hxl]
      obtain ⟨n0, n1, n2, n3, n4, n5, n6, n7, n8, n9, n10, rfl, -⟩ := RdTS.eleven hvd
      unfold termOf at HP
      clear hv9 hn hvd hrd hp hvS hr
      go_wp2_with fail
      refine wp_region_heldI (fun W => Below w.heap.size wr W) [0, 1, 2, 3, 4, 5, 6, 7, 8, 9, 10] [11, 12, 13, 14, 15] (by kernel_rfl) (by kernel_rfl) (fun _ _ _ _ _ h => h) ?_ ?_
      · ((exact (Below.refl _ _).drew))
      simp only [pickI, List.getElem?_cons_succ, List.getElem?_cons_zero]
      repeat (refine HdS.step (fun K hK => ?_); go_simp; first | (refine hK _ ?_; clear hK K) | (apply Exists.intro; refine ⟨fun W hW => ?_, hK _ ?_⟩; (first | (intros; rfl) | ((have en := (hW.cell (p := ⟨bk, off + k * 12, none⟩) hbB).trans hn'; have ev := HV.out.keep (fun q hq => hW.cell (show q.block < _ by rw [hq]; exact hbB)); (have q0 := ev 0 _ rfl; have q1 := ev 1 _ rfl; have q2 := ev 2 _ rfl; have q3 := ev 3 _ rfl; have q4 := ev 4 _ rfl; have q5 := ev 5 _ rfl; have q6 := ev 6 _ rfl; have q7 := ev 7 _ rfl; have q8 := ev 8 _ rfl; have q9 := ev 9 _ rfl; have q10 := ev 10 _ rfl; simp only [Nat.add_zero] at q0); go_simp; rfl))); clear hK K))
      refine HdS.nil ?_
      refine SeqS.step (fun K hK => ?_)
      go_simp
      go_at_call 35
      refine (HP.out _ (Below.refl w.heap.size wr).drew (by show w.heap.size ≤ wr.heap.size; omega)).mono ?_
      rintro e w1 ⟨u, rfl, hu, hbw⟩
      have hbw' : Below wr.heap.size wr w1 := (Below.refl wr.heap.size wr).drew.trans hbw
      have hS1 : Below w.heap.size wr w1 := hbw'.mono hz
      refine hK _ _ hS1 ?_
      clear hK K
      have hz1' : wr.heap.size ≤ w1.heap.size := hbw'.size
      obtain ⟨u0, u1, u2, u3, u4, u5, u6, u7, u8, u9, u10, rfl, h1c⟩ := hu.eleven
      unfold termOf
      refine SeqS.step (fun K hK => ?_)
      go_simp
      refine hK _ _ hS1 ?_
      clear hK K
      have hba : Below w1.heap.size w1 (w1.alloc (.cells #[.string p.1, u0, u1, u2, u3, u4, u5, u6, u7, u8, u9, u10] 34)) := (Below.refl _ _).alloc (Nat.le_refl _) _
      have hS2 : Below w.heap.size wr (w1.alloc (.cells #[.string p.1, u0, u1, u2, u3, u4, u5, u6, u7, u8, u9, u10] 34)) := hS1.trans (hba.mono (by omega))
      refine SeqS.step (fun K hK => ?_)
      go_simp
      refine hK _ _ hS2 ?_
      clear hK K
      have hO2 := (hO.below hbw').below hba
      obtain ⟨xs0, hown0, _⟩ := hO
      rw [hxl] at hown0
      have hE : RdTE w1 (New wr w1) (p.1, cleanT p.2) [.string p.1, u0, u1, u2, u3, u4, u5, u6, u7, u8, u9, u10] := ⟨_, rfl, hns, hu⟩
      have hu2 := fresh_of_newR (R := bearsE) (F := fun b => w.heap.size ≤ b) (S := fun _ => False) (bearsE.more (fun b hb9 => .inr (show New wr w1 b from hb9)) _ _ hE) hba hz1' (fun b h => Nat.le_trans hz h) (fun b h => h.elim) hown0
      obtain ⟨xs, hown, hx⟩ := hO2
      rw [hxl] at hown
      rw [hxl] at hx
      have hz3 : w.heap.size ≤ (w1.alloc (.cells #[.string p.1, u0, u1, u2, u3, u4, u5, u6, u7, u8, u9, u10] 34)).heap.size := by simp; omega
      refine SeqS.plain rfl (fun K hK => ?_)
      refine wp_append_lies _ (.tmp 12) (.tmp 25) 27 rfl w.heap.size 34 i0 _ 12 168 Tryz.underlying27 hi0 hz0 (by assumption) hz2 rfl (by omega) (.slice A1 k c1) k xs rfl hown ⟨w1.heap.size, 0, none⟩ 1 1 [.string p.1, u0, u1, u2, u3, u4, u5, u6, u7, u8, u9, u10] rfl rfl (news_at rfl) (fun x hx9 => (List.mem_cons.1 hx9).elim (fun h9 => h9 ▸ rfl) (fun h9 => h1c x h9)) (by omega) (by simp only [maxLen]; omega) (by omega) hz3 _ rfl ?_
      intro g cap w2 hown2 hg2 hat hlt2
      have hO3 := OwnR.snoc (R := bearsE) hxl hown hx hu2 hown2 hg2 hat
      have hS3 : Below w.heap.size wr w2 := hS2.grown hg2 hz3 (fun j hj => (hown.lt j hj).1)
      refine hK _ _ hS3 ?_
      clear hK K
      refine SeqS.step (fun K hK => ?_)
      go_simp
      refine hK _ _ hS3 ?_
      clear hK K
      refine SeqS.nil ?_
      go_wp2
      refine ⟨⟨k + 1, rfl, hlt, hb.trans hS3, by rw [HT.out]; exact hO3⟩, ?_⟩
      simp [intOf]
      omega
    · obtain rfl : k = l.length := by omega
      rw [List.take_length] at hO
      obtain ⟨A2, c2, rfl, hR⟩ := hO.read
      clear hr ih
      go_wp2
      go_ret
      exact ⟨A2, c2, rfl, hR.more (fun b hb9 => ⟨by have := hb9.1; omega, hb9.2⟩), hb⟩
end Go.Proofs.YtobpkelblpdajaaGreatDoor
