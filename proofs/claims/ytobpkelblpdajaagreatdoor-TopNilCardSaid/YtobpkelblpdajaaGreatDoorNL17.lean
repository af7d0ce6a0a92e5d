/- Walks: the value of a term (value.dict). -/
import Derived.Test.YtobpkelblpdajaaGreatDoorNL16
set_option linter.unusedVariables false
set_option linter.unusedSimpArgs false
set_option linter.unusedSectionVars false
namespace Go.Proofs.YtobpkelblpdajaaGreatDoor
open Go Go.RowKit
def LooseC (T : Tm) : Prop := ∀ (x : List Value) (w : World), RdT w w.heap.size T x → Calls Tryz.prog 160 #[termOf x] w (BuiltPost (builtV T) w)
set_option maxRecDepth 100000 in
set_option maxHeartbeats 1000000 in
theorem dict_any (l : List (ByteArray × Tm)) (ih : ∀ p ∈ l, LooseC p.2) (A : Option Addr) (c : Nat) (w : World) (hl : l.length * 168 ≤ 140737488351232) (hD : EntsAt w w.heap.size A l) :
    Calls Tryz.prog 218 #[.slice A l.length c] w (DictPost (builtD l) w) := by
  obtain ⟨i0, hi, hz0, hz1, hz2⟩ := info_parts Tryz.infoField
  go_enter Tryz.func218, Tryz.ntmps218
  go_wp2_with (at_make; go_must (refine wpList_make_own _ rfl _ _ 41 rfl w.heap.size 39 i0 _ 2 Tryz.underlying41 hi hz0 hz1 .i64 .i64 _ l.length rfl rfl rfl (by rw [hz2]; omega) (by simp only [maxLen]; omega) (Nat.le_refl _) ?_); intro w0 hown0 hg0)
  have hO0 : OwnD (fun b => w.heap.size ≤ b) w0 w.heap.size (.slice (some ⟨w.heap.size, 0, none⟩) 0 l.length) [] := ⟨[], hown0, fun i x h => by simp at h⟩
  have hb0 : Below w.heap.size w w0 := (Below.refl _ _).grown hg0 (Nat.le_refl _) (fun _ h => by cases h)
  go_wp2
  go_loopw [3, 11] (fun v i wr => ∃ k : Nat, i = .int .i64 k ∧ k ≤ l.length ∧ Below w.heap.size w wr ∧ OwnD (fun b => w.heap.size ≤ b) wr w.heap.size v (builtD (l.take k))) (fun _ i _ => l.length - (intOf i).toNat)
  case atStart => exact ⟨0, rfl, by omega, hb0, by simpa [builtD] using hO0⟩
  case round =>
    clear hO0 hown0 hg0 hb0
    obtain ⟨k, rfl, hk, hb, hO⟩ := hrel
    obtain ⟨A1, c1, rfl⟩ := hO.form
    by_cases hlt : k < l.length
    · obtain ⟨b, off, rfl, hbB, hr⟩ := hD.at_ hlt
      have hz := hb.size
      obtain ⟨p, hp⟩ : ∃ p, l[k]? = some p := ⟨_, List.getElem?_eq_getElem hlt⟩
      obtain ⟨e0, hps, v, e1, hv⟩ := RdTD.iff.1 hr k p hp
      have HC := Lib.hid (fun (W : World) (hW : Below wr.heap.size wr W) => ih p (List.mem_of_getElem? hp) v W ((hv.below (hb.trans (hW.mono hz))).more (Nat.le_trans hz hW.size)))
      obtain ⟨n0, n1, n2, n3, n4, n5, n6, n7, n8, n9, n10, rfl, h1c⟩ := hv.eleven
      have e0' := (hb.cell (p := ⟨b, off + k * 12, none⟩) hbB).trans e0
      have e1' := e1.keep (fun p hp => hb.cell (by rw [hp]; exact hbB))
      have q0 := e1' 0 _ rfl
      have q1 := e1' 1 _ rfl
      have q2 := e1' 2 _ rfl
      have q3 := e1' 3 _ rfl
      have q4 := e1' 4 _ rfl
      have q5 := e1' 5 _ rfl
      have q6 := e1' 6 _ rfl
      have q7 := e1' 7 _ rfl
      have q8 := e1' 8 _ rfl
      have q9 := e1' 9 _ rfl
      have q10 := e1' 10 _ rfl
      simp only [Nat.add_zero] at q0
      have hb2 : b < wr.heap.size := by omega
      have hxl : (builtD (l.take k)).length = k := by rw [builtD_eq]; simp; omega
      have HT : Hid (builtD (l.take (k + 1)) = builtD (l.take k) ++ [(p.1, builtV p.2)]) := Lib.hid (by rw [builtD_eq, builtD_eq, List.take_add_one, hp]; simp)
      have o0 := fun (W : World) (a : Addr) (m : Mode) => run_store Tryz.prog W a n0 m (h1c n0 (by simp))
      have o1 := fun (W : World) (a : Addr) (m : Mode) => run_store Tryz.prog W a n1 m (h1c n1 (by simp))
      have o2 := fun (W : World) (a : Addr) (m : Mode) => run_store Tryz.prog W a n2 m (h1c n2 (by simp))
      have o3 := fun (W : World) (a : Addr) (m : Mode) => run_store Tryz.prog W a n3 m (h1c n3 (by simp))
      have o4 := fun (W : World) (a : Addr) (m : Mode) => run_store Tryz.prog W a n4 m (h1c n4 (by simp))
      have o5 := fun (W : World) (a : Addr) (m : Mode) => run_store Tryz.prog W a n5 m (h1c n5 (by simp))
      have o6 := fun (W : World) (a : Addr) (m : Mode) => run_store Tryz.prog W a n6 m (h1c n6 (by simp))
      have o7 := fun (W : World) (a : Addr) (m : Mode) => run_store Tryz.prog W a n7 m (h1c n7 (by simp))
      have o8 := fun (W : World) (a : Addr) (m : Mode) => run_store Tryz.prog W a n8 m (h1c n8 (by simp))
      have o9 := fun (W : World) (a : Addr) (m : Mode) => run_store Tryz.prog W a n9 m (h1c n9 (by simp))
      have o10 := fun (W : World) (a : Addr) (m : Mode) => run_store Tryz.prog W a n10 m (h1c n10 (by simp))
      clear hp hv hr hD ih e1' h1c
      have hbv : Below wr.heap.size wr (wr.alloc (.cells #[.string p.1, n0, n1, n2, n3, n4, n5, n6, n7, n8, n9, n10] 34)) := (Below.refl _ _).alloc (Nat.le_refl _) _
      go_wp2
      refine wp_region_heldS (fun W => ∀ o, W.cell? ⟨wr.heap.size, o, none⟩ = (wr.alloc (.cells #[.string p.1, n0, n1, n2, n3, n4, n5, n6, n7, n8, n9, n10] 34)).cell? ⟨wr.heap.size, o, none⟩) 5 (by kernel_rfl) (by kernel_rfl) (fun _ _ _ _ _ h => h) ?_ ?_
      · ((exact fun _ => rfl))
      simp only [List.take_succ_cons, List.take_zero]
      repeat (refine HdS.step (fun K hK => ?_); go_simp; first | (refine hK _ ?_; clear hK K) | (apply Exists.intro; refine ⟨fun W hW => ?_, hK _ ?_⟩; (first | (intros; rfl) | ((go_simp; rfl))); clear hK K))
      refine HdS.nil ?_
      simp only [List.drop_succ_cons, List.drop_zero]
      refine SeqS.step (fun K hK => ?_)
      go_simp
      go_at_call 160
      refine (HC.out _ (below_drewN hbv 1)).mono ?_
      rintro e w1 ⟨u, rfl, hu, hb1⟩
      have hS1 : Below (wr.heap.size + 1) (wr.alloc (.cells #[.string p.1, n0, n1, n2, n3, n4, n5, n6, n7, n8, n9, n10] 34)) w1 := (below_drewN (Below.refl _ _) 1).trans (hb1.mono (by go_simp))
      have hT1 : ∀ o, w1.cell? ⟨wr.heap.size, o, none⟩ = (wr.alloc (.cells #[.string p.1, n0, n1, n2, n3, n4, n5, n6, n7, n8, n9, n10] 34)).cell? ⟨wr.heap.size, o, none⟩ := fun o => hS1.cell (p := ⟨wr.heap.size, o, none⟩) (Nat.lt_succ_self _)
      refine hK _ _ hT1 ?_
      clear hK K
      have hbw : Below wr.heap.size wr w1 := hbv.trans (hS1.mono (by omega))
      have hz1' : wr.heap.size ≤ w1.heap.size := hbw.size
      have hz2' : wr.heap.size + 1 ≤ w1.heap.size := by have := hS1.size; simp at this; omega
      have hba : Below w1.heap.size w1 (w1.alloc (.cells #[.string p.1, u] 39)) := (Below.refl _ _).alloc (Nat.le_refl _) _
      have hbx : Below wr.heap.size wr (w1.alloc (.cells #[.string p.1, u] 39)) := hbw.trans (hba.mono hz1')
      have hS2 : Below w.heap.size w (w1.alloc (.cells #[.string p.1, u] 39)) := hb.trans (hbx.mono hz)
      have hS3 := hS1.alloc hz2' (.cells #[.string p.1, u] 39)
      have hT3 : ∀ o, (w1.alloc (.cells #[.string p.1, u] 39)).cell? ⟨wr.heap.size, o, none⟩ = (wr.alloc (.cells #[.string p.1, n0, n1, n2, n3, n4, n5, n6, n7, n8, n9, n10] 34)).cell? ⟨wr.heap.size, o, none⟩ := fun o => hS3.cell (p := ⟨wr.heap.size, o, none⟩) (Nat.lt_succ_self _)
      have hO2 := hO.below hbx
      obtain ⟨xs0, hown0, _⟩ := hO
      rw [hxl] at hown0
      have hu1 : RdS w1 (New wr w1) (builtV p.2) u := RdS.more (fun b hb => ⟨by have := hb.1; simp at this; omega, hb.2⟩) _ _ hu
      have hu2 := fresh_of_new (F := fun b => w.heap.size ≤ b) hu1 hba (fun b h => Nat.le_trans hz h) hown0
      obtain ⟨xs, hown, hx⟩ := hO2
      rw [hxl] at hown
      rw [hxl] at hx
      have hou := hu.one
      rcases hu.face with rfl | ⟨ty, y, rfl⟩
      all_goals
        clear hu hu1
        refine SeqS.step (fun K hK => ?_)
        go_simp
        refine hK _ _ hT1 ?_
        clear hK K
        refine SeqS.step (fun K hK => ?_)
        go_simp
        refine hK _ _ hT3 ?_
        clear hK K
        refine SeqS.plain rfl (fun K hK => ?_)
        refine wp_append_lies _ (.tmp 15) (.tmp 22) 41 rfl w.heap.size 39 i0 _ 2 32 Tryz.underlying41 hi hz0 hz1 hz2 rfl (by omega) (.slice A1 k c1) k xs rfl hown ⟨w1.heap.size, 0, none⟩ 1 1 [.string p.1, _] rfl rfl (news_at rfl) (one_of2 rfl hou) (by omega) (by simp only [maxLen]; omega) (by omega) hS2.size _ rfl ?_
        intro g cap w2 hown2 hg2 hat hlt2
        have hO3 := OwnD.snoc hxl hown hx hps hu2 hown2 hg2 hat
        have hS4 : Below w.heap.size w w2 := hS2.grown hg2 hS2.size (fun j hj => (hown.lt j hj).1)
        have hT4 : ∀ o, w2.cell? ⟨wr.heap.size, o, none⟩ = (wr.alloc (.cells #[.string p.1, n0, n1, n2, n3, n4, n5, n6, n7, n8, n9, n10] 34)).cell? ⟨wr.heap.size, o, none⟩ := fun o =>
          (World.cell?_of_block (a := ⟨wr.heap.size, o, none⟩) (hg2.block wr.heap.size (by simp; omega) (fun e => by have := (hown0.lt _ e.symm).2; omega))).trans (hT3 o)
        refine hK _ _ hT4 ?_
        clear hK K
        refine SeqS.step (fun K hK => ?_)
        go_simp
        refine hK _ _ hT4 ?_
        clear hK K
        refine SeqS.nil ?_
        go_wp2
        refine ⟨⟨k + 1, rfl, hlt, hS4, by rw [HT.out]; exact hO3⟩, ?_⟩
        simp [intOf]; omega
    · obtain rfl : k = l.length := by omega
      rw [List.take_length] at hO ⊢
      obtain ⟨A2, c2, e2, hr⟩ := hO.read
      injection e2 with e2 _ e3
      subst e2; subst e3
      have hbl : (builtD l).length = l.length := by rw [builtD_eq]; simp
      clear hO
      go_wp2
      go_ret
      exact ⟨A1, c1, by rw [hbl]; rfl, hr.more (fun b hb => ⟨hb.1.elim id id, hb.2⟩), hb⟩
end Go.Proofs.YtobpkelblpdajaaGreatDoor
