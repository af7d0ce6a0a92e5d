/- Walks: value.copiedDict. -/
import Derived.Test.YtobpkelblpdajaaGreatDoorNL20
set_option linter.unusedVariables false
set_option linter.unusedSimpArgs false
set_option linter.unusedSectionVars false
namespace Go.Proofs.YtobpkelblpdajaaGreatDoor
open Go Go.RowKit
mutual
/- Of kinds that can be, all the way down. -/
def fineV : V → Prop
  | .list l => fineL l
  | .dict l => fineD l
  | .record _ _ l => fineD l
  | .nothing => False
  | .alien => False
  | .nil => True
  | .bool _ => True
  | .int _ => True
  | .flt _ => True
  | .text _ => True
  | .bytes _ => True
  | .ref _ => True
def fineL : List V → Prop
  | [] => True
  | x :: r => fineV x ∧ fineL r
def fineD : List (ByteArray × V) → Prop
  | [] => True
  | (_, x) :: r => fineV x ∧ fineD r
end
theorem fineL_iff {l : List V} : fineL l ↔ ∀ x ∈ l, fineV x := by
  induction l with
  | nil => simp [fineL]
  | cons x r ih => simp [fineL, ih]
theorem fineD_iff {l : List (ByteArray × V)} : fineD l ↔ ∀ p ∈ l, fineV p.2 := by
  induction l with
  | nil => simp [fineD]
  | cons x r ih => obtain ⟨n, x⟩ := x; simp [fineD, ih]
def CopyC (x : V) : Prop := fineV x → ∀ (v : Value) (w : World), Rd w w.heap.size x v → Calls Tryz.prog 49 #[v] w (BuiltPost x w)
set_option maxRecDepth 100000 in
set_option maxHeartbeats 1000000 in
theorem copiedDict_any (l : List (ByteArray × V)) (ih : ∀ p ∈ l, CopyC p.2) (hf : fineD l) (A : Option Addr) (c : Nat) (w : World) (hl : l.length ≤ 1099511627776) (hD : DictAt w w.heap.size A l) :
    Calls Tryz.prog 86 #[.slice A l.length c] w (DictPost l w) := by
  obtain ⟨i0, hi, hz0, hz1, hz2⟩ := info_parts Tryz.infoField
  go_enter Tryz.func86, Tryz.ntmps86
  go_wp2_with (at_make; go_must (refine wpList_make_own _ rfl _ _ 41 rfl w.heap.size 39 i0 _ 2 Tryz.underlying41 hi hz0 hz1 .i64 .i64 _ l.length rfl rfl rfl (by rw [hz2]; omega) (by simp only [maxLen]; omega) (Nat.le_refl _) ?_); intro w0 hown0 hg0)
  have hO0 : OwnD (fun b => w.heap.size ≤ b) w0 w.heap.size (.slice (some ⟨w.heap.size, 0, none⟩) 0 l.length) [] := ⟨[], hown0, fun i x h => by simp at h⟩
  have hb0 : Below w.heap.size w w0 := (Below.refl _ _).grown hg0 (Nat.le_refl _) (fun _ h => by cases h)
  go_wp2
  go_loopw [3, 11] (fun v i wr => ∃ k : Nat, i = .int .i64 k ∧ k ≤ l.length ∧ Below w.heap.size w wr ∧ OwnD (fun b => w.heap.size ≤ b) wr w.heap.size v (l.take k)) (fun _ i _ => l.length - (intOf i).toNat)
  case atStart => exact ⟨0, rfl, by omega, hb0, by simpa using hO0⟩
  case round =>
    clear hO0 hown0 hg0 hb0
    obtain ⟨k, rfl, hk, hb, hO⟩ := hrel
    obtain ⟨A1, c1, rfl⟩ := hO.form
    by_cases hlt : k < l.length
    · obtain ⟨b, off, rfl, hbB, hr⟩ := hD.at_ hlt
      have hz := hb.size
      obtain ⟨p, hp⟩ : ∃ p, l[k]? = some p := ⟨_, List.getElem?_eq_getElem hlt⟩
      obtain ⟨e0, hps, n0, e1, hv⟩ := RdD.iff.1 hr k p hp
      have HC := Lib.hid (fun (W : World) (hW : Below wr.heap.size wr W) => ih p (List.mem_of_getElem? hp) (fineD_iff.1 hf p (List.mem_of_getElem? hp)) n0 W ((hv.below (hb.trans (hW.mono hz))).more (fun b h => Nat.lt_of_lt_of_le h (Nat.le_trans hz hW.size))))
      have q0 := (hb.cell (p := ⟨b, off + k * 2, none⟩) hbB).trans e0
      have q1 := (hb.cell (p := ⟨b, off + k * 2 + 1, none⟩) hbB).trans e1
      have hb2 : b < wr.heap.size := by omega
      have hxl : (l.take k).length = k := by simp; omega
      have HT : Hid (l.take (k + 1) = l.take k ++ [(p.1, p.2)]) := Lib.hid (by rw [List.take_add_one, hp]; simp)
      have o0 := fun (W : World) (a : Addr) (m : Mode) => run_store Tryz.prog W a n0 m hv.one
      have hbv : Below wr.heap.size wr (wr.alloc (.cells #[.string p.1, n0] 39)) := (Below.refl _ _).alloc (Nat.le_refl _) _
      clear hp hv hr hD ih hf e0 e1
      go_wp2
      refine wp_region_heldS (fun W => ∀ o, W.cell? ⟨wr.heap.size, o, none⟩ = (wr.alloc (.cells #[.string p.1, n0] 39)).cell? ⟨wr.heap.size, o, none⟩) 5 (by kernel_rfl) (by kernel_rfl) (fun _ _ _ _ _ h => h) ?_ ?_
      · ((exact fun _ => rfl))
      simp only [List.take_succ_cons, List.take_zero]
      repeat (refine HdS.step (fun K hK => ?_); go_simp; first | (refine hK _ ?_; clear hK K) | (apply Exists.intro; refine ⟨fun W hW => ?_, hK _ ?_⟩; (first | (intros; rfl) | ((go_simp; rfl))); clear hK K))
      refine HdS.nil ?_
      simp only [List.drop_succ_cons, List.drop_zero]
      refine SeqS.step (fun K hK => ?_)
      go_simp
      go_at_call 49
      refine (HC.out _ (below_drewN hbv 1)).mono ?_
      rintro e w1 ⟨u, rfl, hu, hb1⟩
      have hS1 : Below (wr.heap.size + 1) (wr.alloc (.cells #[.string p.1, n0] 39)) w1 := (below_drewN (Below.refl _ _) 1).trans (hb1.mono (by go_simp))
      have hT1 : ∀ o, w1.cell? ⟨wr.heap.size, o, none⟩ = (wr.alloc (.cells #[.string p.1, n0] 39)).cell? ⟨wr.heap.size, o, none⟩ := fun o => hS1.cell (p := ⟨wr.heap.size, o, none⟩) (Nat.lt_succ_self _)
      refine hK _ _ hT1 ?_
      clear hK K
      have hbw : Below wr.heap.size wr w1 := hbv.trans (hS1.mono (by omega))
      have hz1' : wr.heap.size ≤ w1.heap.size := hbw.size
      have hz2' : wr.heap.size + 1 ≤ w1.heap.size := by have := hS1.size; simp at this; omega
      have hba : Below w1.heap.size w1 (w1.alloc (.cells #[.string p.1, u] 39)) := (Below.refl _ _).alloc (Nat.le_refl _) _
      have hbx : Below wr.heap.size wr (w1.alloc (.cells #[.string p.1, u] 39)) := hbw.trans (hba.mono hz1')
      have hS2 : Below w.heap.size w (w1.alloc (.cells #[.string p.1, u] 39)) := hb.trans (hbx.mono hz)
      have hS3 := hS1.alloc hz2' (.cells #[.string p.1, u] 39)
      have hT3 : ∀ o, (w1.alloc (.cells #[.string p.1, u] 39)).cell? ⟨wr.heap.size, o, none⟩ = (wr.alloc (.cells #[.string p.1, n0] 39)).cell? ⟨wr.heap.size, o, none⟩ := fun o => hS3.cell (p := ⟨wr.heap.size, o, none⟩) (Nat.lt_succ_self _)
      have hO2 := hO.below hbx
      obtain ⟨xs0, hown0, _⟩ := hO
      rw [hxl] at hown0
      have hu1 : RdS w1 (New wr w1) p.2 u := RdS.more (fun b hb => ⟨by have := hb.1; simp at this; omega, hb.2⟩) _ _ hu
      have hu2 := fresh_of_new (F := fun b => w.heap.size ≤ b) hu1 hba (fun b h => Nat.le_trans hz h) hown0
      obtain ⟨xs, hown, hx⟩ := hO2
      rw [hxl] at hown
      rw [hxl] at hx
      have hou := hu.one
      rcases hu.face with rfl | ⟨ty, y, rfl⟩
      all_goals
        clear hu hu1
        refine SeqS.step (fun K hK => ?_)
        go_simp
        refine hK _ _ hT1 ?_
        clear hK K
        refine SeqS.step (fun K hK => ?_)
        go_simp
        refine hK _ _ hT3 ?_
        clear hK K
        refine SeqS.plain rfl (fun K hK => ?_)
        refine wp_append_lies _ (.tmp 15) (.tmp 22) 41 rfl w.heap.size 39 i0 _ 2 32 Tryz.underlying41 hi hz0 hz1 hz2 rfl (by omega) (.slice A1 k c1) k xs rfl hown ⟨w1.heap.size, 0, none⟩ 1 1 [.string p.1, _] rfl rfl (news_at rfl) (one_of2 rfl hou) (by omega) (by simp only [maxLen]; omega) (by omega) hS2.size _ rfl ?_
        intro g cap w2 hown2 hg2 hat hlt2
        have hO3 := OwnD.snoc hxl hown hx hps hu2 hown2 hg2 hat
        have hS4 : Below w.heap.size w w2 := hS2.grown hg2 hS2.size (fun j hj => (hown.lt j hj).1)
        have hT4 : ∀ o, w2.cell? ⟨wr.heap.size, o, none⟩ = (wr.alloc (.cells #[.string p.1, n0] 39)).cell? ⟨wr.heap.size, o, none⟩ := fun o =>
          (World.cell?_of_block (a := ⟨wr.heap.size, o, none⟩) (hg2.block wr.heap.size (by simp; omega) (fun e => by have := (hown0.lt _ e.symm).2; omega))).trans (hT3 o)
        refine hK _ _ hT4 ?_
        clear hK K
        refine SeqS.step (fun K hK => ?_)
        go_simp
        refine hK _ _ hT4 ?_
        clear hK K
        refine SeqS.nil ?_
        go_wp2
        refine ⟨⟨k + 1, rfl, hlt, hS4, by rw [HT.out]; exact hO3⟩, ?_⟩
        simp [intOf]; omega
    · obtain rfl : k = l.length := by omega
      rw [List.take_length] at hO ⊢
      obtain ⟨A2, c2, e2, hr⟩ := hO.read
      injection e2 with e2 _ e3
      subst e2; subst e3
      clear hO
      go_wp2
      go_ret
      exact ⟨A1, c1, rfl, hr.more (fun b hb => ⟨hb.1.elim id id, hb.2⟩), hb⟩
end Go.Proofs.YtobpkelblpdajaaGreatDoor
