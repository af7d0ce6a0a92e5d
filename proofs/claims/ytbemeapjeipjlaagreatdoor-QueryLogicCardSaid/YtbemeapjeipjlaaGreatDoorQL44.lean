/- Walks: an expression of an Op and its Parts (op); a call of a function (call). -/
import Derived.Test.YtbemeapjeipjlaaGreatDoorQL43
set_option linter.unusedVariables false
set_option linter.unusedSimpArgs false
namespace Go.Proofs.YtbemeapjeipjlaaGreatDoor
open Go Go.RowKit
def zeroTm : Tm := .mk 0 false 0 0 ⟨#[]⟩ [] 0 [] [] ⟨#[]⟩ 0
theorem zeroTm_rd (w : World) (S : Nat → Prop) : RdTS w S zeroTm [.int .i64 0, .bool false, .int .i64 0, .float .f64 0, .string ⟨#[]⟩, .slice none 0 0, .int .u64 0, .slice none 0 0, .slice none 0 0, .string ⟨#[]⟩, .int .i64 0] := by
  unfold zeroTm
  rw [RdTS]
  exact ⟨none, 0, none, 0, none, 0, rfl, ⟨by decide, by decide⟩, ⟨by decide, by decide⟩, by decide, by decide, ⟨fun _ => rfl, .inl rfl⟩, by decide, by decide, by decide, ⟨by decide, by decide⟩, ⟨by decide, .inl rfl⟩, ⟨by decide, .inl rfl⟩⟩
set_option maxRecDepth 100000 in
set_option maxHeartbeats 1000000 in
theorem op_any (nm : ByteArray) (A : Option Addr) (l : List Ex) (c : Nat) (S : Nat → Prop) (w : World) (hS : ∀ b, S b → b < w.heap.size) (hnm : nm.size ≤ 140737488351232) (hll : l.length * 216 ≤ 140737488351232) (hp : PartsS w S A l) : Calls Tryz.prog 13 #[.string nm, .slice A l.length c] w (CopiedPost S (.mk nm 0 l ⟨#[]⟩ zeroTm) w) := by
  obtain ⟨i0, hi0, hz0, hz1, hz2⟩ := info_parts Tryz.infoExpr
  have of := fun (W : World) (a : Addr) (m : Mode) => run_store Tryz.prog W a (.float .f64 0) m rfl
  have HB1 : Hid (Below w.heap.size w (w.alloc (.cells #[.string ⟨#[]⟩, .int .i64 0, .slice none 0 0, .string ⟨#[]⟩, .int .i64 0, .bool false, .int .i64 0, .float .f64 0, .string ⟨#[]⟩, .slice none 0 0, .int .u64 0, .slice none 0 0, .slice none 0 0, .string ⟨#[]⟩, .int .i64 0] 32))) := Lib.hid ((Below.refl _ _).alloc (Nat.le_refl _) _)
  have hsz : (w.alloc (.cells #[.string ⟨#[]⟩, .int .i64 0, .slice none 0 0, .string ⟨#[]⟩, .int .i64 0, .bool false, .int .i64 0, .float .f64 0, .string ⟨#[]⟩, .slice none 0 0, .int .u64 0, .slice none 0 0, .slice none 0 0, .string ⟨#[]⟩, .int .i64 0] 32)).heap.size = w.heap.size + 1 := by simp
  have HCp := Lib.hid exCopied_any
  go_enter Tryz.func13, Tryz.ntmps13
  go_wp2
  go_loopw [5, 6] (fun y j wr => ∃ k : Nat, j = .int .i64 k ∧ k ≤ l.length ∧ Below (w.heap.size + 1) (w.alloc (.cells #[.string ⟨#[]⟩, .int .i64 0, .slice none 0 0, .string ⟨#[]⟩, .int .i64 0, .bool false, .int .i64 0, .float .f64 0, .string ⟨#[]⟩, .slice none 0 0, .int .u64 0, .slice none 0 0, .slice none 0 0, .string ⟨#[]⟩, .int .i64 0] 32)) wr ∧ OwnE (fun b => S b ∨ w.heap.size + 1 ≤ b) wr (w.heap.size + 1) y (l.take k)) (fun _ j _ => l.length - (intOf j).toNat)
  case atStart =>
    refine ⟨0, rfl, by omega, (Below.refl _ _).alloc (by simp) _, ?_⟩
    have := OwnE.empty (fun b => S b ∨ w.heap.size + 1 ≤ b) (w.alloc (.cells #[.string ⟨#[]⟩, .int .i64 0, .slice none 0 0, .string ⟨#[]⟩, .int .i64 0, .bool false, .int .i64 0, .float .f64 0, .string ⟨#[]⟩, .slice none 0 0, .int .u64 0, .slice none 0 0, .slice none 0 0, .string ⟨#[]⟩, .int .i64 0] 32)) (w.heap.size + 1) (by simp)
    simpa using this
  case round =>
    obtain ⟨k, rfl, hk, hb, hO⟩ := hrel
    obtain ⟨A1, c1, rfl⟩ := hO.form
    have hz : w.heap.size + 1 ≤ wr.heap.size := by have := hb.size; rw [hsz] at this; exact this
    have hb0 : Below w.heap.size w wr := HB1.out.trans (hb.mono (by omega))
    by_cases hlt : k < l.length
    · obtain ⟨p, hpk⟩ : ∃ p, l[k]? = some p := ⟨_, List.getElem?_eq_getElem hlt⟩
      obtain ⟨bl, off, vs, rfl, hSb, e1, hvs⟩ := hp.get hpk
      have hbB := hS _ hSb
      have e1' := e1.keep (fun p hp => hb0.cell (by rw [hp]; exact hbB))
      have HC := Lib.hid (HCp.out p vs S wr (fun b h => Nat.lt_of_lt_of_le (hS b h) hb0.size) (RdES.keep (fun p hp => hb0.cell (hS _ hp)) _ _ hvs))
      have hxl : (l.take k).length = k := by simp; omega
      have HT : Hid (l.take (k + 1) = l.take k ++ [p]) := Lib.hid (by rw [List.take_add_one, hpk]; simp)
      obtain ⟨op', a', l', nm', t'⟩ := p
      obtain ⟨A', c', y', rfl, -, -, -, hty, -⟩ := hvs
      obtain ⟨n0, n1, n2, n3, n4, n5, n6, n7, n8, n9, n10, rfl, h1c⟩ := hty.elevenS
      have q0 := e1' 0 _ rfl
      have q1 := e1' 1 _ rfl
      have q2 := e1' 2 _ rfl
      have q3 := e1' 3 _ rfl
      have q4 := e1' 4 _ rfl
      have q5 := e1' 5 _ rfl
      have q6 := e1' 6 _ rfl
      have q7 := e1' 7 _ rfl
      have q8 := e1' 8 _ rfl
      have q9 := e1' 9 _ rfl
      have q10 := e1' 10 _ rfl
      have q11 := e1' 11 _ rfl
      have q12 := e1' 12 _ rfl
      have q13 := e1' 13 _ rfl
      have q14 := e1' 14 _ rfl
      simp only [Nat.add_zero] at q0
      clear hpk e1 e1' hp hty h1c HCp
      unfold termOf at HC
      go_wp2_with fail
      refine HC.out.mono ?_
      rintro e w1 ⟨u, rfl, hu, hbw⟩
      have hu15 := hu.fifteen
      have hz1' : wr.heap.size ≤ w1.heap.size := hbw.size
      have hba : Below w1.heap.size w1 (w1.alloc (.cells u.toArray 32)) := (Below.refl _ _).alloc (Nat.le_refl _) _
      have hbx : Below wr.heap.size wr (w1.alloc (.cells u.toArray 32)) := hbw.trans (hba.mono hz1')
      have hS2 := hb.trans (hbx.mono hz)
      have hO2 := hO.below hbx
      obtain ⟨xs0, hown0, _⟩ := hO
      rw [hxl] at hown0
      have hu2 := fresh_of_newE (F := fun b => S b ∨ w.heap.size + 1 ≤ b) hu hba hz1' (fun b h => .inr (Nat.le_trans hz h)) (fun b h => ⟨.inl h, by have := hS b h; omega, by have := hS b h; omega⟩) hown0
      obtain ⟨xs, hown, hx⟩ := hO2
      rw [hxl] at hown
      rw [hxl] at hx
      have hz3 : w.heap.size + 1 ≤ (w1.alloc (.cells u.toArray 32)).heap.size := by simp; omega
      have hu3 := hu
      obtain ⟨A3, c3, y3, rfl, -, -, -, hty3, -⟩ := hu3
      obtain ⟨p0, p1, p2, p3, p4, p5, p6, p7, p8, p9, p10, rfl, h1c⟩ := hty3.elevenS
      clear hu hty3
      unfold termOf
      go_wp2_with (at_builtin; go_must (refine wpList_append_lies _ rfl (.tmp 14) (.tmp 20) 22 rfl (w.heap.size + 1) 32 i0 _ 15 216 Tryz.underlying22 hi0 hz0 hz1 hz2 rfl (by omega) (.slice A1 k c1) k xs rfl hown ⟨w1.heap.size, 0, none⟩ 1 1 [.string op', .int .i64 a', .slice A3 l'.length c3, .string nm', p0, p1, p2, p3, p4, p5, p6, p7, p8, p9, p10] rfl rfl (news_at rfl) hu15.2 (by omega) (by simp only [maxLen]; omega) (by omega) hz3 _ rfl ?_); intro g cap w2 hown2 hg2 hat hlt2)
      refine ⟨⟨k + 1, rfl, hlt, hS2.grown hg2 hz3 (fun j hj => (hown.lt j hj).1), ?_⟩, ?_⟩
      · rw [HT.out]; exact OwnE.snoc hxl hown hx hu2 hown2 hg2 hat
      · simp [intOf]; omega
    · obtain rfl : k = l.length := by omega
      rw [List.take_length] at hO ⊢
      obtain ⟨A2, c2, e2, hR⟩ := hO.read
      injection e2 with e2 _ e3
      subst e2; subst e3
      clear hO hp HCp
      have qe : ∀ o, wr.cell? ⟨w.heap.size, o, none⟩ = (w.alloc (.cells #[.string ⟨#[]⟩, .int .i64 0, .slice none 0 0, .string ⟨#[]⟩, .int .i64 0, .bool false, .int .i64 0, .float .f64 0, .string ⟨#[]⟩, .slice none 0 0, .int .u64 0, .slice none 0 0, .slice none 0 0, .string ⟨#[]⟩, .int .i64 0] 32)).cell? ⟨w.heap.size, o, none⟩ := fun o => hb.cell (p := ⟨w.heap.size, o, none⟩) (show w.heap.size < w.heap.size + 1 by omega)
      have qf : ∀ o, wr.frozen? ⟨w.heap.size, o, none⟩ = (w.alloc (.cells #[.string ⟨#[]⟩, .int .i64 0, .slice none 0 0, .string ⟨#[]⟩, .int .i64 0, .bool false, .int .i64 0, .float .f64 0, .string ⟨#[]⟩, .slice none 0 0, .int .u64 0, .slice none 0 0, .slice none 0 0, .string ⟨#[]⟩, .int .i64 0] 32)).frozen? ⟨w.heap.size, o, none⟩ := fun o => hb.frozen (p := ⟨w.heap.size, o, none⟩) (show w.heap.size < w.heap.size + 1 by omega)
      go_wp2
      have hfin : Below w.heap.size wr (((((((((((((((wr.setCell ⟨w.heap.size, 0, none⟩ (.string nm)).setCell ⟨w.heap.size, 1, none⟩ (.int .i64 0)).setCell ⟨w.heap.size, 2, none⟩ (.slice A1 l.length c1)).setCell ⟨w.heap.size, 3, none⟩ (.string ⟨#[]⟩)).setCell ⟨w.heap.size, 4, none⟩ (.int .i64 0)).setCell ⟨w.heap.size, 5, none⟩ (.bool false)).setCell ⟨w.heap.size, 6, none⟩ (.int .i64 0)).setCell ⟨w.heap.size, 7, none⟩ (.float .f64 0)).setCell ⟨w.heap.size, 8, none⟩ (.string ⟨#[]⟩)).setCell ⟨w.heap.size, 9, none⟩ (.slice none 0 0)).setCell ⟨w.heap.size, 10, none⟩ (.int .u64 0)).setCell ⟨w.heap.size, 11, none⟩ (.slice none 0 0)).setCell ⟨w.heap.size, 12, none⟩ (.slice none 0 0)).setCell ⟨w.heap.size, 13, none⟩ (.string ⟨#[]⟩)).setCell ⟨w.heap.size, 14, none⟩ (.int .i64 0)) := (((((((((((((((Below.refl w.heap.size wr).setCell (p := ⟨w.heap.size, 0, none⟩) (Nat.le_refl _) (.string nm)).setCell (p := ⟨w.heap.size, 1, none⟩) (Nat.le_refl _) (.int .i64 0)).setCell (p := ⟨w.heap.size, 2, none⟩) (Nat.le_refl _) (.slice A1 l.length c1)).setCell (p := ⟨w.heap.size, 3, none⟩) (Nat.le_refl _) (.string ⟨#[]⟩)).setCell (p := ⟨w.heap.size, 4, none⟩) (Nat.le_refl _) (.int .i64 0)).setCell (p := ⟨w.heap.size, 5, none⟩) (Nat.le_refl _) (.bool false)).setCell (p := ⟨w.heap.size, 6, none⟩) (Nat.le_refl _) (.int .i64 0)).setCell (p := ⟨w.heap.size, 7, none⟩) (Nat.le_refl _) (.float .f64 0)).setCell (p := ⟨w.heap.size, 8, none⟩) (Nat.le_refl _) (.string ⟨#[]⟩)).setCell (p := ⟨w.heap.size, 9, none⟩) (Nat.le_refl _) (.slice none 0 0)).setCell (p := ⟨w.heap.size, 10, none⟩) (Nat.le_refl _) (.int .u64 0)).setCell (p := ⟨w.heap.size, 11, none⟩) (Nat.le_refl _) (.slice none 0 0)).setCell (p := ⟨w.heap.size, 12, none⟩) (Nat.le_refl _) (.slice none 0 0)).setCell (p := ⟨w.heap.size, 13, none⟩) (Nat.le_refl _) (.string ⟨#[]⟩)).setCell (p := ⟨w.heap.size, 14, none⟩) (Nat.le_refl _) (.int .i64 0)
      have hkeep : ∀ p : Addr, p.block ≠ w.heap.size → (((((((((((((((wr.setCell ⟨w.heap.size, 0, none⟩ (.string nm)).setCell ⟨w.heap.size, 1, none⟩ (.int .i64 0)).setCell ⟨w.heap.size, 2, none⟩ (.slice A1 l.length c1)).setCell ⟨w.heap.size, 3, none⟩ (.string ⟨#[]⟩)).setCell ⟨w.heap.size, 4, none⟩ (.int .i64 0)).setCell ⟨w.heap.size, 5, none⟩ (.bool false)).setCell ⟨w.heap.size, 6, none⟩ (.int .i64 0)).setCell ⟨w.heap.size, 7, none⟩ (.float .f64 0)).setCell ⟨w.heap.size, 8, none⟩ (.string ⟨#[]⟩)).setCell ⟨w.heap.size, 9, none⟩ (.slice none 0 0)).setCell ⟨w.heap.size, 10, none⟩ (.int .u64 0)).setCell ⟨w.heap.size, 11, none⟩ (.slice none 0 0)).setCell ⟨w.heap.size, 12, none⟩ (.slice none 0 0)).setCell ⟨w.heap.size, 13, none⟩ (.string ⟨#[]⟩)).setCell ⟨w.heap.size, 14, none⟩ (.int .i64 0)).cell? p = wr.cell? p := by
        intro p h1
        have g1 : ∀ o, (⟨w.heap.size, o, none⟩ : Addr) ≠ p := fun o h => h1 (by rw [← h])
        rw [World.cell?_setCell_other _ _ _ _ (g1 _), World.cell?_setCell_other _ _ _ _ (g1 _), World.cell?_setCell_other _ _ _ _ (g1 _), World.cell?_setCell_other _ _ _ _ (g1 _), World.cell?_setCell_other _ _ _ _ (g1 _), World.cell?_setCell_other _ _ _ _ (g1 _), World.cell?_setCell_other _ _ _ _ (g1 _), World.cell?_setCell_other _ _ _ _ (g1 _), World.cell?_setCell_other _ _ _ _ (g1 _), World.cell?_setCell_other _ _ _ _ (g1 _), World.cell?_setCell_other _ _ _ _ (g1 _), World.cell?_setCell_other _ _ _ _ (g1 _), World.cell?_setCell_other _ _ _ _ (g1 _), World.cell?_setCell_other _ _ _ _ (g1 _), World.cell?_setCell_other _ _ _ _ (g1 _)]
      refine bodyPost_ret (v := .agg #[.string nm, .int .i64 0, .slice A1 l.length c1, .string ⟨#[]⟩, .int .i64 0, .bool false, .int .i64 0, .float .f64 0, .string ⟨#[]⟩, .slice none 0 0, .int .u64 0, .slice none 0 0, .slice none 0 0, .string ⟨#[]⟩, .int .i64 0]) (by simp [results, Tryz.results13, go_sem, qe]) rfl ?_
      generalize (((((((((((((((wr.setCell ⟨w.heap.size, 0, none⟩ (.string nm)).setCell ⟨w.heap.size, 1, none⟩ (.int .i64 0)).setCell ⟨w.heap.size, 2, none⟩ (.slice A1 l.length c1)).setCell ⟨w.heap.size, 3, none⟩ (.string ⟨#[]⟩)).setCell ⟨w.heap.size, 4, none⟩ (.int .i64 0)).setCell ⟨w.heap.size, 5, none⟩ (.bool false)).setCell ⟨w.heap.size, 6, none⟩ (.int .i64 0)).setCell ⟨w.heap.size, 7, none⟩ (.float .f64 0)).setCell ⟨w.heap.size, 8, none⟩ (.string ⟨#[]⟩)).setCell ⟨w.heap.size, 9, none⟩ (.slice none 0 0)).setCell ⟨w.heap.size, 10, none⟩ (.int .u64 0)).setCell ⟨w.heap.size, 11, none⟩ (.slice none 0 0)).setCell ⟨w.heap.size, 12, none⟩ (.slice none 0 0)).setCell ⟨w.heap.size, 13, none⟩ (.string ⟨#[]⟩)).setCell ⟨w.heap.size, 14, none⟩ (.int .i64 0)) = W at *
      have hbW := hb0.trans hfin
      refine ⟨[.string nm, .int .i64 0, .slice A1 l.length c1, .string ⟨#[]⟩, .int .i64 0, .bool false, .int .i64 0, .float .f64 0, .string ⟨#[]⟩, .slice none 0 0, .int .u64 0, .slice none 0 0, .slice none 0 0, .string ⟨#[]⟩, .int .i64 0], rfl, ⟨A1, c1, _, rfl, hnm, ⟨by decide, by decide⟩, by decide, zeroTm_rd _ _, hll, ?_⟩, hbW⟩
      have hF : ∀ b, ((S b ∨ w.heap.size + 1 ≤ b) ∨ w.heap.size + 1 ≤ b) ∧ b < wr.heap.size → b ≠ w.heap.size ∧ (S b ∨ New w W b) := by
        rintro b ⟨(h | h) | h, hlt⟩
        · have := hS b h; exact ⟨by omega, .inl h⟩
        · exact ⟨by omega, .inr ⟨by omega, Nat.lt_of_lt_of_le hlt hfin.size⟩⟩
        · exact ⟨by omega, .inr ⟨by omega, Nat.lt_of_lt_of_le hlt hfin.size⟩⟩
      exact PartsS.more (PartsS.keep hR (fun p hp => hkeep p (hF _ hp).1)) (fun b hb => (hF b hb).2)
set_option maxRecDepth 100000 in
set_option maxHeartbeats 1000000 in
theorem exCall_any (nm : ByteArray) (A : Option Addr) (l : List Ex) (c : Nat) (S : Nat → Prop) (w : World) (hS : ∀ b, S b → b < w.heap.size) (hnm : nm.size ≤ 140737488351232) (hll : l.length * 216 ≤ 140737488351232) (hp : PartsS w S A l) : Calls Tryz.prog 14 #[.string nm, .slice A l.length c] w (CopiedPost S (.mk oCall 0 l nm zeroTm) w) := by
  have hB0 : Below w.heap.size w (w.alloc (.cells #[.string ⟨#[]⟩, .int .i64 0, .slice none 0 0, .string ⟨#[]⟩, .int .i64 0, .bool false, .int .i64 0, .float .f64 0, .string ⟨#[]⟩, .slice none 0 0, .int .u64 0, .slice none 0 0, .slice none 0 0, .string ⟨#[]⟩, .int .i64 0] 32)) := (Below.refl _ _).alloc (Nat.le_refl _) _
  have hsz : (w.alloc (.cells #[.string ⟨#[]⟩, .int .i64 0, .slice none 0 0, .string ⟨#[]⟩, .int .i64 0, .bool false, .int .i64 0, .float .f64 0, .string ⟨#[]⟩, .slice none 0 0, .int .u64 0, .slice none 0 0, .slice none 0 0, .string ⟨#[]⟩, .int .i64 0] 32)).heap.size = w.heap.size + 1 := by simp
  have HO := Lib.hid (op_any oCall A l c S (w.alloc (.cells #[.string ⟨#[]⟩, .int .i64 0, .slice none 0 0, .string ⟨#[]⟩, .int .i64 0, .bool false, .int .i64 0, .float .f64 0, .string ⟨#[]⟩, .slice none 0 0, .int .u64 0, .slice none 0 0, .slice none 0 0, .string ⟨#[]⟩, .int .i64 0] 32)) (fun b h => by have := hS b h; simp; omega) (by decide) hll (PartsS.keep hp (fun p hp => hB0.cell (hS _ hp))))
  have HB0 := Lib.hid hB0
  clear hp hB0
  unfold oCall at HO
  go_enter Tryz.func14, Tryz.ntmps14
  go_wp2_with fail
  refine HO.out.mono ?_
  rintro e w1 ⟨u, rfl, hu, hbw⟩
  have hlt : w.heap.size < w1.heap.size := by have := hbw.size; rw [hsz] at this; omega
  have hbw0 : Below w.heap.size w w1 := HB0.out.trans (hbw.mono (by rw [hsz]; omega))
  have hu3 := hu
  obtain ⟨A1, c1, y3, rfl, h1, h2, h3, hty3, h5, h6⟩ := hu3
  replace h6 : PartsS w1 (fun b => S b ∨ New (w.alloc (.cells #[.string ⟨#[]⟩, .int .i64 0, .slice none 0 0, .string ⟨#[]⟩, .int .i64 0, .bool false, .int .i64 0, .float .f64 0, .string ⟨#[]⟩, .slice none 0 0, .int .u64 0, .slice none 0 0, .slice none 0 0, .string ⟨#[]⟩, .int .i64 0] 32)) w1 b) A1 l := h6
  have HTY := Lib.hid hty3
  obtain ⟨m0, m1, m2, m3, m4, m5, m6, m7, m8, m9, m10, rfl, h1c⟩ := hty3.elevenS
  have o0 := fun (W : World) (a : Addr) (m : Mode) => run_store Tryz.prog W a m0 m (h1c m0 (by simp))
  have o1 := fun (W : World) (a : Addr) (m : Mode) => run_store Tryz.prog W a m1 m (h1c m1 (by simp))
  have o2 := fun (W : World) (a : Addr) (m : Mode) => run_store Tryz.prog W a m2 m (h1c m2 (by simp))
  have o3 := fun (W : World) (a : Addr) (m : Mode) => run_store Tryz.prog W a m3 m (h1c m3 (by simp))
  have o4 := fun (W : World) (a : Addr) (m : Mode) => run_store Tryz.prog W a m4 m (h1c m4 (by simp))
  have o5 := fun (W : World) (a : Addr) (m : Mode) => run_store Tryz.prog W a m5 m (h1c m5 (by simp))
  have o6 := fun (W : World) (a : Addr) (m : Mode) => run_store Tryz.prog W a m6 m (h1c m6 (by simp))
  have o7 := fun (W : World) (a : Addr) (m : Mode) => run_store Tryz.prog W a m7 m (h1c m7 (by simp))
  have o8 := fun (W : World) (a : Addr) (m : Mode) => run_store Tryz.prog W a m8 m (h1c m8 (by simp))
  have o9 := fun (W : World) (a : Addr) (m : Mode) => run_store Tryz.prog W a m9 m (h1c m9 (by simp))
  have o10 := fun (W : World) (a : Addr) (m : Mode) => run_store Tryz.prog W a m10 m (h1c m10 (by simp))
  have qe : ∀ o, w1.cell? ⟨w.heap.size, o, none⟩ = (w.alloc (.cells #[.string ⟨#[]⟩, .int .i64 0, .slice none 0 0, .string ⟨#[]⟩, .int .i64 0, .bool false, .int .i64 0, .float .f64 0, .string ⟨#[]⟩, .slice none 0 0, .int .u64 0, .slice none 0 0, .slice none 0 0, .string ⟨#[]⟩, .int .i64 0] 32)).cell? ⟨w.heap.size, o, none⟩ := fun o => hbw.cell (p := ⟨w.heap.size, o, none⟩) (show w.heap.size < _ by rw [hsz]; omega)
  have qf : ∀ o, w1.frozen? ⟨w.heap.size, o, none⟩ = (w.alloc (.cells #[.string ⟨#[]⟩, .int .i64 0, .slice none 0 0, .string ⟨#[]⟩, .int .i64 0, .bool false, .int .i64 0, .float .f64 0, .string ⟨#[]⟩, .slice none 0 0, .int .u64 0, .slice none 0 0, .slice none 0 0, .string ⟨#[]⟩, .int .i64 0] 32)).frozen? ⟨w.heap.size, o, none⟩ := fun o => hbw.frozen (p := ⟨w.heap.size, o, none⟩) (show w.heap.size < _ by rw [hsz]; omega)
  clear hu hty3 h1c
  unfold termOf
  go_wp2
  have hfin : Below w.heap.size w1 ((((((((((((((((w1.setCell ⟨w.heap.size, 0, none⟩ (.string oCall)).setCell ⟨w.heap.size, 1, none⟩ (.int .i64 0)).setCell ⟨w.heap.size, 2, none⟩ (.slice A1 l.length c1)).setCell ⟨w.heap.size, 3, none⟩ (.string nm)).setCell ⟨w.heap.size, 4, none⟩ m0).setCell ⟨w.heap.size, 5, none⟩ m1).setCell ⟨w.heap.size, 6, none⟩ m2).setCell ⟨w.heap.size, 7, none⟩ m3).setCell ⟨w.heap.size, 8, none⟩ m4).setCell ⟨w.heap.size, 9, none⟩ m5).setCell ⟨w.heap.size, 10, none⟩ m6).setCell ⟨w.heap.size, 11, none⟩ m7).setCell ⟨w.heap.size, 12, none⟩ m8).setCell ⟨w.heap.size, 13, none⟩ m9).setCell ⟨w.heap.size, 14, none⟩ m10).alloc (.cells #[.string oCall, .int .i64 0, .slice A1 l.length c1, .string nm, m0, m1, m2, m3, m4, m5, m6, m7, m8, m9, m10] 32)) := ((((((((((((((((Below.refl w.heap.size w1).setCell (p := ⟨w.heap.size, 0, none⟩) (Nat.le_refl _) (.string oCall)).setCell (p := ⟨w.heap.size, 1, none⟩) (Nat.le_refl _) (.int .i64 0)).setCell (p := ⟨w.heap.size, 2, none⟩) (Nat.le_refl _) (.slice A1 l.length c1)).setCell (p := ⟨w.heap.size, 3, none⟩) (Nat.le_refl _) (.string nm)).setCell (p := ⟨w.heap.size, 4, none⟩) (Nat.le_refl _) m0).setCell (p := ⟨w.heap.size, 5, none⟩) (Nat.le_refl _) m1).setCell (p := ⟨w.heap.size, 6, none⟩) (Nat.le_refl _) m2).setCell (p := ⟨w.heap.size, 7, none⟩) (Nat.le_refl _) m3).setCell (p := ⟨w.heap.size, 8, none⟩) (Nat.le_refl _) m4).setCell (p := ⟨w.heap.size, 9, none⟩) (Nat.le_refl _) m5).setCell (p := ⟨w.heap.size, 10, none⟩) (Nat.le_refl _) m6).setCell (p := ⟨w.heap.size, 11, none⟩) (Nat.le_refl _) m7).setCell (p := ⟨w.heap.size, 12, none⟩) (Nat.le_refl _) m8).setCell (p := ⟨w.heap.size, 13, none⟩) (Nat.le_refl _) m9).setCell (p := ⟨w.heap.size, 14, none⟩) (Nat.le_refl _) m10).alloc (by simp; omega) _
  have hkeep : ∀ p : Addr, p.block ≠ w.heap.size → p.block < w1.heap.size → ((((((((((((((((w1.setCell ⟨w.heap.size, 0, none⟩ (.string oCall)).setCell ⟨w.heap.size, 1, none⟩ (.int .i64 0)).setCell ⟨w.heap.size, 2, none⟩ (.slice A1 l.length c1)).setCell ⟨w.heap.size, 3, none⟩ (.string nm)).setCell ⟨w.heap.size, 4, none⟩ m0).setCell ⟨w.heap.size, 5, none⟩ m1).setCell ⟨w.heap.size, 6, none⟩ m2).setCell ⟨w.heap.size, 7, none⟩ m3).setCell ⟨w.heap.size, 8, none⟩ m4).setCell ⟨w.heap.size, 9, none⟩ m5).setCell ⟨w.heap.size, 10, none⟩ m6).setCell ⟨w.heap.size, 11, none⟩ m7).setCell ⟨w.heap.size, 12, none⟩ m8).setCell ⟨w.heap.size, 13, none⟩ m9).setCell ⟨w.heap.size, 14, none⟩ m10).alloc (.cells #[.string oCall, .int .i64 0, .slice A1 l.length c1, .string nm, m0, m1, m2, m3, m4, m5, m6, m7, m8, m9, m10] 32)).cell? p = w1.cell? p := by
    intro p h1 hl
    have g1 : ∀ o, (⟨w.heap.size, o, none⟩ : Addr) ≠ p := fun o h => h1 (by rw [← h])
    rw [Below.cell (B := w1.heap.size) (w := (((((((((((((((w1.setCell ⟨w.heap.size, 0, none⟩ (.string oCall)).setCell ⟨w.heap.size, 1, none⟩ (.int .i64 0)).setCell ⟨w.heap.size, 2, none⟩ (.slice A1 l.length c1)).setCell ⟨w.heap.size, 3, none⟩ (.string nm)).setCell ⟨w.heap.size, 4, none⟩ m0).setCell ⟨w.heap.size, 5, none⟩ m1).setCell ⟨w.heap.size, 6, none⟩ m2).setCell ⟨w.heap.size, 7, none⟩ m3).setCell ⟨w.heap.size, 8, none⟩ m4).setCell ⟨w.heap.size, 9, none⟩ m5).setCell ⟨w.heap.size, 10, none⟩ m6).setCell ⟨w.heap.size, 11, none⟩ m7).setCell ⟨w.heap.size, 12, none⟩ m8).setCell ⟨w.heap.size, 13, none⟩ m9).setCell ⟨w.heap.size, 14, none⟩ m10)) (((Below.refl _ _).alloc (by simp) _)) hl]
    rw [World.cell?_setCell_other _ _ _ _ (g1 _), World.cell?_setCell_other _ _ _ _ (g1 _), World.cell?_setCell_other _ _ _ _ (g1 _), World.cell?_setCell_other _ _ _ _ (g1 _), World.cell?_setCell_other _ _ _ _ (g1 _), World.cell?_setCell_other _ _ _ _ (g1 _), World.cell?_setCell_other _ _ _ _ (g1 _), World.cell?_setCell_other _ _ _ _ (g1 _), World.cell?_setCell_other _ _ _ _ (g1 _), World.cell?_setCell_other _ _ _ _ (g1 _), World.cell?_setCell_other _ _ _ _ (g1 _), World.cell?_setCell_other _ _ _ _ (g1 _), World.cell?_setCell_other _ _ _ _ (g1 _), World.cell?_setCell_other _ _ _ _ (g1 _), World.cell?_setCell_other _ _ _ _ (g1 _)]
  refine bodyPost_ret (v := .agg #[.string oCall, .int .i64 0, .slice A1 l.length c1, .string nm, m0, m1, m2, m3, m4, m5, m6, m7, m8, m9, m10]) (by simp [results, Tryz.results14, go_sem, qe, hlt]) rfl ?_
  generalize ((((((((((((((((w1.setCell ⟨w.heap.size, 0, none⟩ (.string oCall)).setCell ⟨w.heap.size, 1, none⟩ (.int .i64 0)).setCell ⟨w.heap.size, 2, none⟩ (.slice A1 l.length c1)).setCell ⟨w.heap.size, 3, none⟩ (.string nm)).setCell ⟨w.heap.size, 4, none⟩ m0).setCell ⟨w.heap.size, 5, none⟩ m1).setCell ⟨w.heap.size, 6, none⟩ m2).setCell ⟨w.heap.size, 7, none⟩ m3).setCell ⟨w.heap.size, 8, none⟩ m4).setCell ⟨w.heap.size, 9, none⟩ m5).setCell ⟨w.heap.size, 10, none⟩ m6).setCell ⟨w.heap.size, 11, none⟩ m7).setCell ⟨w.heap.size, 12, none⟩ m8).setCell ⟨w.heap.size, 13, none⟩ m9).setCell ⟨w.heap.size, 14, none⟩ m10).alloc (.cells #[.string oCall, .int .i64 0, .slice A1 l.length c1, .string nm, m0, m1, m2, m3, m4, m5, m6, m7, m8, m9, m10] 32)) = W at *
  have hbW := hbw0.trans hfin
  have hF : ∀ b, (S b ∨ New (w.alloc (.cells #[.string ⟨#[]⟩, .int .i64 0, .slice none 0 0, .string ⟨#[]⟩, .int .i64 0, .bool false, .int .i64 0, .float .f64 0, .string ⟨#[]⟩, .slice none 0 0, .int .u64 0, .slice none 0 0, .slice none 0 0, .string ⟨#[]⟩, .int .i64 0] 32)) w1 b) → b ≠ w.heap.size ∧ b < w1.heap.size ∧ (S b ∨ New w W b) := by
    rintro b (h | h)
    · have := hS b h; exact ⟨by omega, by omega, .inl h⟩
    · have g1 := h.1; have g2 := h.2
      rw [hsz] at g1
      exact ⟨by omega, g2, .inr ⟨by omega, Nat.lt_of_lt_of_le g2 hfin.size⟩⟩
  exact ⟨[.string oCall, .int .i64 0, .slice A1 l.length c1, .string nm, m0, m1, m2, m3, m4, m5, m6, m7, m8, m9, m10], rfl, ⟨A1, c1, _, rfl, by decide, ⟨by decide, by decide⟩, hnm, RdTS.more (fun b h => (hF b h).2.2) _ _ (RdTS.keep (fun p hp => hkeep p (hF _ hp).1 (hF _ hp).2.1) _ _ HTY.out), hll, PartsS.more (PartsS.keep h6 (fun p hp => hkeep p (hF _ hp).1 (hF _ hp).2.1)) (fun b hb => (hF b hb).2.2)⟩, hbW⟩
end Go.Proofs.YtbemeapjeipjlaaGreatDoor
