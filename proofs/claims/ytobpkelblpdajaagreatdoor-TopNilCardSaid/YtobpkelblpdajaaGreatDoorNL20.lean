/- Walks: value.Of. -/
import Derived.Test.YtobpkelblpdajaaGreatDoorNL19
set_option linter.unusedVariables false
set_option linter.unusedSimpArgs false
set_option linter.unusedSectionVars false
namespace Go.Proofs.YtobpkelblpdajaaGreatDoor
open Go Go.RowKit
def OfPost (T : Tm) (w : World) (e : Ending) (w' : World) : Prop :=
  ∃ v, e = .returned (.tuple #[v, .int .i64 (checkV (builtV T)).2]) ∧ Below w.heap.size w w' ∧ ((checkV (builtV T)).2 = 0 → RdS w' (New w w') (builtV T) v) ∧ ((checkV (builtV T)).2 ≠ 0 → v = .nilIface)
set_option maxRecDepth 100000 in
set_option maxHeartbeats 1000000 in
theorem of_any (T : Tm) (x : List Value) (w : World) (hx : RdT w w.heap.size T x) : Calls Tryz.prog 112 #[termOf x] w (OfPost T w) := by
  have HL := Lib.hid (fun (W : World) (hW : Below w.heap.size w W) => loose_any T x W (RdT.more hW.size _ _ (RdT.below hx hW)))
  obtain ⟨n0, n1, n2, n3, n4, n5, n6, n7, n8, n9, n10, rfl, h1c⟩ := hx.eleven
  clear hx h1c
  unfold termOf at *
  go_enter Tryz.func112, Tryz.ntmps112
  go_wp2_with fail
  refine (HL.out _ ((Below.refl _ _).alloc (Nat.le_refl _) _)).mono ?_
  rintro e w1 ⟨u, rfl, hu, hb1⟩
  have hb0 : Below w.heap.size w w1 := ((Below.refl _ _).alloc (Nat.le_refl _) _).trans (hb1.mono (by simp))
  have HC := Lib.hid (check_any (builtV T) u w1 (RdS.more (fun b hb => hb.2) _ _ hu))
  have hu2 : RdS w1 (New w w1) (builtV T) u := RdS.more (fun b hb => ⟨by have := hb.1; simp at this; omega, hb.2⟩) _ _ hu
  generalize hck : checkV (builtV T) = ck at *
  have HP : Hid (CheckPost (builtV T) w1 = fun e w' => e = .returned (.tuple #[.int .i64 ck.1, .int .i64 ck.2]) ∧ Below w1.heap.size w1 w') := Lib.hid (by funext e w'; unfold CheckPost; rw [hck])
  rw [HP.out] at HC
  replace hck := Lib.hid hck
  clear HP hu
  by_cases hz : ck.2 = 0
  · have hz1 : ((ck.2 : Int) != 0) = false := by rw [hz]; rfl
    go_wp2_with fail
    refine HC.out.mono ?_
    rintro e w2 ⟨rfl, hb2⟩
    go_wp2
    go_ret2
    exact ⟨u, by rw [hck.out, hz]; rfl, hb0.trans (hb2.mono hb0.size), fun _ => RdS.more (fun b hb => ⟨hb.1, Nat.lt_of_lt_of_le hb.2 hb2.size⟩) _ _ (RdS.keep (fun p hp => hb2.cell hp.2) _ _ hu2), fun h => absurd (by rw [hck.out]; exact hz) h⟩
  · have hz1 : ((ck.2 : Int) != 0) = true := by rw [bne_iff_ne]; omega
    go_wp2_with fail
    refine HC.out.mono ?_
    rintro e w2 ⟨rfl, hb2⟩
    go_wp2
    go_ret2
    exact ⟨.nilIface, by rw [hck.out]; rfl, hb0.trans (hb2.mono hb0.size), fun h => absurd (by rw [← hck.out]; exact h) hz, fun _ => rfl⟩
end Go.Proofs.YtobpkelblpdajaaGreatDoor
