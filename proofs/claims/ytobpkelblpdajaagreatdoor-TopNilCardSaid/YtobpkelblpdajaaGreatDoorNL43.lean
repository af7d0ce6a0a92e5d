/- A nil within an interface, and a value of a strange type, is told apart from all others by every call that takes values, wherever in a value it lies: none panics, none changes anything, all tell the same. The row is proved, then the card that ties the listed variables to the program's text. No condition. -/
import Derived.Test.YtobpkelblpdajaaGreatDoorNL42
import Derived.Test.YtobpkelblpdajaaGreatDoorNL38
import Derived.Test.YtobpkelblpdajaaGreatDoorRows
import Derived.Test.YtobpkelblpdajaaGreatDoorCards
import Derived.Test.YtobpkelblpdajaaGreatDoorTie
import Derived.ProofKit
import Derived.LaidMore
import Derived.Lay
import Derived.OpenShut
import Derived.ShutString
import Derived.Lib.SmallJoins
import Derived.Stop.Joined
import Derived.SizedLaws
import Derived.SevenTiedAt
import Derived.Carry
import Derived.Laws.Cover2
set_option linter.unusedVariables false
set_option linter.unusedSimpArgs false
set_option linter.unusedSectionVars false
namespace Go.Proofs.YtobpkelblpdajaaGreatDoor.topNil
open Go Go.ChangeShapes Go.WideShapes Go.ChangeAt Go.RowKit Go.Joins Go.Deep
open Go.ChangeMaps (open_string shut_string)
theorem own : ownKnob Tryz.prog.godebug = none := by kernel_rfl
theorem laidOut : laidOutB Tryz.prog = true := by kernel_rfl
theorem agg_of {v : Value} {n : Nat} (h : v.cells.toList.length = n) (hn : n ≠ 1) : v = termOf v.cells.toList := by
  cases v <;> first | rfl | (exact absurd h (by simpa [Value.cells] using (Ne.symm hn)))
set_option maxRecDepth 100000 in
theorem lifted (os : Os) (started : os.Started) (H : Type) (enc : TypeId × Value → H) :
    ReturnsInHanded {} Tryz.checked os 3 .any (fun w args => (Rows.topNilSpec.pre enc Tryz.prog Tryz.f3 [] false w args ∧ laidMetH Tryz.prog Rows.topNilRow.laid w) ∧ sizedMet enc Tryz.prog Tryz.f3 (OpenSpec.ofChange Rows.topNilSpec) false w args)
      (Rows.topNilSpec.post enc Tryz.prog Tryz.f3 false true false false) := by
  refine returnsInHanded_of_change_and (C := Tryz.checked) (X := fun w _ => laidMetH Tryz.prog Rows.topNilRow.laid w) (fun _ _ _ hh h => h.of_heap hh) own started (by kernel_rfl) Tryz.func3
    (ChangeSpec.witness_shaped (enc := enc) (C := Tryz.checked) (os := os) (X := fun w _ => laidMetH Tryz.prog Rows.topNilRow.laid w) false (World.laidAll Tryz.prog os Rows.topNilRow.laid) #[.agg #[.int .i64 0, .bool false, .int .i64 0, .float .f64 0, .string ByteArray.empty, .slice none 0 0, .int .u64 0, .slice none 0 0, .slice none 0 0, .string ByteArray.empty, .int .i64 0], .int .i64 0, .bool false] 8 (World.laidAll_os _ _ _)
      (World.shaped_of_ZipB (by kernel_rfl) (by kernel_rfl)) (by kernel_rfl) (by kernel_rfl) (by kernel_rfl)
      (by rw [MakeChecks.laidMetH_plain _ _ _ (by kernel_rfl)]; exact laidMet_laidAll _ (by kernel_rfl) (by kernel_rfl))) ?_
  intro W base args ds gs before hval0 hW _ hsz0 hL _
  have hval : ∀ (j : Nat) t v, Tryz.f3.params[j]? = some t → args[j]? = some v → Value.okWide Tryz.prog W .any base t v := hval0
  have hW' := hW
  obtain ⟨p, q, hA0, hV, rfl, hfz, hnd⟩ := hW
  have hA : DataW.TrodAll enc Tryz.prog W 0 (fun _ => true) true Tryz.f3.params.toList args.toList ds p := hA0
  rw [Tryz.params3] at hA hval
  obtain ⟨v0, vs0, d0, ds0, p0, q0, hargs, rfl, rfl, h0, r0⟩ := trodAll_cons hA
  obtain ⟨v1, vs1, d1, ds1, p1, q1, rfl, rfl, rfl, h1, r1⟩ := trodAll_cons r0
  obtain ⟨v2, vs2, d2, ds2, p2, q2, rfl, rfl, rfl, h2, r2⟩ := trodAll_cons r1
  obtain ⟨rfl, rfl, rfl⟩ := trodAll_nil r2
  obtain ⟨rfl, rfl⟩ := trodVars_none hV
  have hargs2 : args = #[v0, v1, v2] := by
    cases args with
    | mk l => exact congrArg Array.mk hargs
  subst hargs2
  have hsz : ∀ m ∈ DataW.weightsEach Tryz.prog [29, 2, 4] [d0, d1, d2], m ≤ reachBytes := by
    intro m hm
    have h1 : (DataW.weightsEach Tryz.prog [29, 2, 4] [d0, d1, d2]).all (fun x => decide (x ≤ reachBytes)) = true := hsz0
    exact of_decide_eq_true (List.all_eq_true.1 h1 m hm)
  have hlt : ∀ x ∈ (p0 ++ (p1 ++ (p2 ++ []))) ++ [], x.block < W.heap.size := fun x hx => by simpa using hW'.lt x hx
  have a0 : DataW.Trod enc Tryz.prog W 0 (fun _ => true) true 29 v0 d0 p0 := h0
  obtain ⟨n0, t0⟩ := h0
  obtain ⟨x0, hx0⟩ := open_tm _ _ _ t0 (fun m hm => hsz m (weightsEach_mem (i := 0) rfl rfl m hm))
  have e0 := agg_of (v := v0) (n := 11) (by obtain ⟨c0, c1, c2, c3, c4, c5, c6, c7, c8, c9, c10, h, -⟩ := hx0.eleven; rw [h]; rfl) (by decide)
  have a1 : DataW.Trod enc Tryz.prog W 0 (fun _ => true) true 2 v1 d1 p1 := h1
  obtain ⟨y1, rfl, rfl, rfl, wf1⟩ := open_int Tryz.underlying2 (hval 1 2 v1 rfl rfl) h1
  have a2 : DataW.Trod enc Tryz.prog W 0 (fun _ => true) true 4 v2 d2 p2 := h2
  obtain ⟨y2, rfl, rfl, rfl⟩ := open_bool Tryz.underlying4 (hval 2 4 v2 rfl rfl) h2
  have hlaw : Calls Tryz.prog 3 #[v0, (.int .i64 y1), (.bool y2)] W (BoolPost true W) := by
    rw [e0]
    exact topnil_any x0 _ _ _ W hx0
  have e1 : Rows.topNilSpec.fn H ([d0, (.lit (.int .i64 y1)), (.lit (.bool y2))] ++ []) = { results := [.lit (.bool true)], args := [d0, (.lit (.int .i64 y1)), (.lit (.bool y2))] } := by simp [Rows.topNilSpec]
  refine hlaw.mono fun e W' ⟨he, hb⟩ => ?_
  subst he
  refine ⟨_, rfl, _, _, _, [], p0 ++ ([] ++ ([] ++ [])), [], hW', ?_, ?_, ?_, hb.frame _, fun h => by cases h⟩
  · rw [e1]; exact trodAll_mk1 (shut_bool Tryz.underlying4 true)
  · rw [e1]
    have hbt := fun (t : TypeId) (v : Value) (d : DataW H) (pp : List MemPlace) (hr : Tryz.prog.readableRec t = true) (hrow : t < Tryz.prog.types.size) (h : DataW.Trod enc Tryz.prog W 0 (fun _ => true) true t v d pp) (hl : ∀ x ∈ pp, x.block < W.heap.size) => Below.trod laidOut hr hrow h hb hl
    exact trodAll_cons_mk (hbt 29 v0 d0 p0 (by kernel_rfl) (of_decide_eq_true (by kernel_rfl)) a0 (fun x hx => hlt x (by simp [hx]))) (trodAll_cons_mk (hbt 2 (.int .i64 y1) (.lit (.int .i64 y1)) [] (by kernel_rfl) (of_decide_eq_true (by kernel_rfl)) a1 (fun x hx => by cases hx)) (trodAll_cons_mk (hbt 4 (.bool y2) (.lit (.bool y2)) [] (by kernel_rfl) (of_decide_eq_true (by kernel_rfl)) a2 (fun x hx => by cases hx)) (trodAll_mk0)))
  · rw [e1]; rfl
end Go.Proofs.YtobpkelblpdajaaGreatDoor.topNil
