/- Walks: the value of a term (mk.Built). -/
import Derived.Test.YtobpkelblpdajaaGreatDoorNL12
import Derived.Test.YtobpkelblpdajaaGreatDoorNL13
set_option linter.unusedVariables false
set_option linter.unusedSimpArgs false
set_option linter.unusedSectionVars false
namespace Go.Proofs.YtobpkelblpdajaaGreatDoor
open Go Go.RowKit
mutual
def builtV : Tm → V
  | .mk k b i f t bs r l d c v => if k = 1 then .nil else if k = 2 then .bool b else if k = 3 then .int i else if k = 4 then .flt f else if k = 5 then .text t else if k = 6 then .bytes bs else if k = 7 then .ref r
      else if k = 8 then .list (builtL l) else if k = 9 then .dict (builtD d) else if k = 10 then .record c v (builtD d) else if k = 11 then .nothing else .alien
def builtL : List Tm → List V
  | [] => []
  | x :: r => builtV x :: builtL r
def builtD : List (ByteArray × Tm) → List (ByteArray × V)
  | [] => []
  | (n, x) :: r => (n, builtV x) :: builtD r
end
theorem builtL_eq (l : List Tm) : builtL l = l.map builtV := by
  induction l with
  | nil => rfl
  | cons x r ih => simp [builtL, ih]
theorem builtD_eq (l : List (ByteArray × Tm)) : builtD l = l.map (fun p => (p.1, builtV p.2)) := by
  induction l with
  | nil => rfl
  | cons x r ih => obtain ⟨n, x⟩ := x; simp [builtD, ih]
def BuiltPost (y : V) (w : World) (e : Ending) (w' : World) : Prop := ∃ v, e = .returned v ∧ RdS w' (New w w') y v ∧ Below w.heap.size w w'
def BuiltC (T : Tm) : Prop := ∀ (x : List Value) (w : World), RdT w w.heap.size T x → Calls Tryz.prog 12 #[termOf x] w (BuiltPost (builtV T) w)
def DictPost (l : List (ByteArray × V)) (w : World) (e : Ending) (w' : World) : Prop := ∃ A c, e = .returned (.slice A l.length c) ∧ DictS w' (New w w') A l ∧ Below w.heap.size w w'
theorem RdTS.eleven {w : World} {S : Nat → Prop} {x : Tm} {v : List Value} (h : RdTS w S x v) : ∃ c0 c1 c2 c3 c4 c5 c6 c7 c8 c9 c10, v = [c0, c1, c2, c3, c4, c5, c6, c7, c8, c9, c10] ∧ ∀ u ∈ v, u.oneCell' = true := by
  cases x with
  | mk k b i f t bs r l d c v =>
    obtain ⟨Ab, cb, Al, cl, Ad, cd, rfl, _⟩ := h
    exact ⟨_, _, _, _, _, _, _, _, _, _, _, rfl, by intro u hu; simp at hu; rcases hu with rfl | rfl | rfl | rfl | rfl | rfl | rfl | rfl | rfl | rfl | rfl <;> rfl⟩
theorem Tryz.infoAny : (Tryz.prog.info? 20).map (fun i => (i.zero, i.size, i.bytes)) = some (some .nilIface, 1, 16) := by kernel_rfl
theorem Tryz.infoField : (Tryz.prog.info? 39).map (fun i => (i.zero, i.size, i.bytes)) = some (some (.agg #[.string ⟨#[]⟩, .nilIface]), 2, 32) := by kernel_rfl
set_option maxRecDepth 100000 in
set_option maxHeartbeats 1000000 in
theorem Dict_any (l : List (ByteArray × Tm)) (ih : ∀ p ∈ l, BuiltC p.2) (A : Option Addr) (c : Nat) (w : World) (hl : l.length * 168 ≤ 140737488351232) (hD : EntsAt w w.heap.size A l) :
    Calls Tryz.prog 47 #[.slice A l.length c] w (DictPost (builtD l) w) := by
  obtain ⟨i0, hi, hz0, hz1, hz2⟩ := info_parts Tryz.infoField
  go_enter Tryz.func47, Tryz.ntmps47
  go_wp2
  go_loopw [3, 4] (fun v i wr => ∃ k : Nat, i = .int .i64 k ∧ k ≤ l.length ∧ Below w.heap.size w wr ∧ OwnD (fun b => w.heap.size ≤ b) wr w.heap.size v (builtD (l.take k))) (fun _ i _ => l.length - (intOf i).toNat)
  case atStart => exact ⟨0, rfl, by omega, (Below.refl _ _).alloc (Nat.le_refl _) _, OwnD.empty _ _ _ (Nat.le_refl _)⟩
  case round =>
    obtain ⟨k, rfl, hk, hb, hO⟩ := hrel
    obtain ⟨A1, c1, rfl⟩ := hO.form
    by_cases hlt : k < l.length
    · obtain ⟨b, off, rfl, hbB, hr⟩ := hD.at_ hlt
      have hz := hb.size
      obtain ⟨p, hp⟩ : ∃ p, l[k]? = some p := ⟨_, List.getElem?_eq_getElem hlt⟩
      obtain ⟨e0, hps, v, e1, hv⟩ := RdTD.iff.1 hr k p hp
      have HC := Lib.hid (fun (W : World) (hW : Below wr.heap.size wr W) => ih p (List.mem_of_getElem? hp) v W ((hv.below (hb.trans (hW.mono hz))).more (Nat.le_trans hz hW.size)))
      obtain ⟨n0, n1, n2, n3, n4, n5, n6, n7, n8, n9, n10, rfl, h1c⟩ := hv.eleven
      have c0 := (hb.cell (p := ⟨b, off + k * 12, none⟩) hbB).trans e0
      have hb2 : b < wr.heap.size := by omega
      have hxl : (builtD (l.take k)).length = k := by rw [builtD_eq]; simp; omega
      have HT : Hid (builtD (l.take (k + 1)) = builtD (l.take k) ++ [(p.1, builtV p.2)]) := Lib.hid (by rw [builtD_eq, builtD_eq, List.take_add_one, hp]; simp)
      clear hp hv hr hD ih
      go_wp2
      refine wp_region_heldS (fun W => Below w.heap.size w W) 11 (by kernel_rfl) (by kernel_rfl) (fun _ _ _ _ _ h => h) ?_ ?_
      · ((exact below_drewN hb 1))
      simp only [List.take_succ_cons, List.take_zero]
      repeat (refine HdS.step (fun K hK => ?_); go_simp; first | (refine hK _ ?_; clear hK K) | (apply Exists.intro; refine ⟨fun W hW => ?_, hK _ ?_⟩; (first | (intros; rfl) | ((have e0' := (hW.cell (p := ⟨b, off + k * 12, none⟩) hbB).trans e0; have e1' := e1.keep (fun p hp => hW.cell (by rw [hp]; exact hbB)); (have q0 := e1' 0 _ rfl; have q1 := e1' 1 _ rfl; have q2 := e1' 2 _ rfl; have q3 := e1' 3 _ rfl; have q4 := e1' 4 _ rfl; have q5 := e1' 5 _ rfl; have q6 := e1' 6 _ rfl; have q7 := e1' 7 _ rfl; have q8 := e1' 8 _ rfl; have q9 := e1' 9 _ rfl; have q10 := e1' 10 _ rfl; simp only [Nat.add_zero] at q0); clear e1'; go_simp; rfl))); clear hK K))
      refine HdS.nil ?_
      simp only [List.drop_succ_cons, List.drop_zero]
      refine SeqS.step (fun K hK => ?_)
      go_simp
      go_at_call 12
      refine (HC.out _ (below_drewN (Below.refl _ _) 1)).mono ?_
      rintro e w1 ⟨u, rfl, hu, hb1⟩
      have hS1 : Below w.heap.size w w1 := (below_drewN hb 1).trans (hb1.mono hz)
      refine hK _ _ hS1 ?_
      clear hK K
      have hbw : Below wr.heap.size wr w1 := (below_drewN (Below.refl _ _) 1).trans hb1
      have hz1' : wr.heap.size ≤ w1.heap.size := hbw.size
      have hba : Below w1.heap.size w1 (w1.alloc (.cells #[.string p.1, u] 39)) := (Below.refl _ _).alloc (Nat.le_refl _) _
      have hbx : Below wr.heap.size wr (w1.alloc (.cells #[.string p.1, u] 39)) := hbw.trans (hba.mono hz1')
      have hS2 : Below w.heap.size w (w1.alloc (.cells #[.string p.1, u] 39)) := hb.trans (hbx.mono hz)
      have hO2 := hO.below hbx
      obtain ⟨xs0, hown0, _⟩ := hO
      rw [hxl] at hown0
      have hu2 := fresh_of_new (F := fun b => w.heap.size ≤ b) hu hba (fun b h => Nat.le_trans hz h) hown0
      obtain ⟨xs, hown, hx⟩ := hO2
      rw [hxl] at hown
      rw [hxl] at hx
      have hou := hu.one
      rcases hu.face with rfl | ⟨ty, y, rfl⟩
      all_goals
        clear hu
        refine SeqS.step (fun K hK => ?_)
        go_simp
        refine hK _ _ hS1 ?_
        clear hK K
        refine SeqS.step (fun K hK => ?_)
        go_simp
        refine hK _ _ hS2 ?_
        clear hK K
        refine SeqS.plain rfl (fun K hK => ?_)
        refine wp_append_lies _ (.tmp 12) (.tmp 25) 41 rfl w.heap.size 39 i0 _ 2 32 Tryz.underlying41 hi hz0 hz1 hz2 rfl (by omega) (.slice A1 k c1) k xs rfl hown ⟨w1.heap.size, 0, none⟩ 1 1 [.string p.1, _] rfl rfl (news_at rfl) (one_of2 rfl hou) (by omega) (by simp only [maxLen]; omega) (by omega) hS2.size _ rfl ?_
        intro g cap w2 hown2 hg2 hat hlt2
        have hO3 := OwnD.snoc hxl hown hx hps hu2 hown2 hg2 hat
        have hS3 : Below w.heap.size w w2 := hS2.grown hg2 hS2.size (fun j hj => (hown.lt j hj).1)
        refine hK _ _ hS3 ?_
        clear hK K
        refine SeqS.step (fun K hK => ?_)
        go_simp
        refine hK _ _ hS3 ?_
        clear hK K
        refine SeqS.nil ?_
        go_wp2
        refine ⟨⟨k + 1, rfl, hlt, hS3, by rw [HT.out]; exact hO3⟩, ?_⟩
        simp [intOf]; omega
    · obtain rfl : k = l.length := by omega
      rw [List.take_length] at hO ⊢
      obtain ⟨A2, c2, e2, hr⟩ := hO.read
      injection e2 with e2 _ e3
      subst e2; subst e3
      have hbl : (builtD l).length = l.length := by rw [builtD_eq]; simp
      clear hO
      go_wp2
      go_ret
      exact ⟨A1, c1, by rw [hbl]; rfl, hr.more (fun b hb => ⟨hb.1.elim id id, hb.2⟩), hb⟩
end Go.Proofs.YtobpkelblpdajaaGreatDoor
