/- Walks: the value of a term (value.loose), kind by kind. -/
import Derived.Test.YtobpkelblpdajaaGreatDoorNL17
import Derived.Laws.AppendOwnNone
set_option linter.unusedVariables false
set_option linter.unusedSimpArgs false
set_option linter.unusedSectionVars false
namespace Go.Proofs.YtobpkelblpdajaaGreatDoor
open Go Go.RowKit
section
variable (b : Bool) (i : Int) (f : Nat) (t : ByteArray) (bs : List UInt8) (r : Int) (l : List Tm) (d : List (ByteArray × Tm)) (c : ByteArray) (v : Int)
set_option maxRecDepth 100000 in
set_option maxHeartbeats 1000000 in
theorem loose_1 : LooseC (.mk 1 b i f t bs r l d c v) := by
  rintro x w ⟨Ab, cb, Al, cl, Ad, cd, rfl, hk, hi, ht, hbl, ⟨hbn, hbs⟩, hr0, hr1, hc, hv, ⟨hll, hl⟩, ⟨hdl, hd⟩⟩
  clear hbs hl hd
  unfold termOf
  go_enter Tryz.func160, Tryz.ntmps160
  go_wp2
  go_ret
  exact ⟨_, rfl, rfl, (Below.refl _ _).alloc (Nat.le_refl _) _⟩
set_option maxRecDepth 100000 in
set_option maxHeartbeats 1000000 in
theorem loose_2 : LooseC (.mk 2 b i f t bs r l d c v) := by
  rintro x w ⟨Ab, cb, Al, cl, Ad, cd, rfl, hk, hi, ht, hbl, ⟨hbn, hbs⟩, hr0, hr1, hc, hv, ⟨hll, hl⟩, ⟨hdl, hd⟩⟩
  clear hbs hl hd
  unfold termOf
  go_enter Tryz.func160, Tryz.ntmps160
  go_wp2
  go_ret
  exact ⟨_, rfl, rfl, (Below.refl _ _).alloc (Nat.le_refl _) _⟩
set_option maxRecDepth 100000 in
set_option maxHeartbeats 1000000 in
theorem loose_3 : LooseC (.mk 3 b i f t bs r l d c v) := by
  rintro x w ⟨Ab, cb, Al, cl, Ad, cd, rfl, hk, hi, ht, hbl, ⟨hbn, hbs⟩, hr0, hr1, hc, hv, ⟨hll, hl⟩, ⟨hdl, hd⟩⟩
  clear hbs hl hd
  unfold termOf
  go_enter Tryz.func160, Tryz.ntmps160
  go_wp2
  go_ret
  exact ⟨_, rfl, ⟨rfl, hi⟩, (Below.refl _ _).alloc (Nat.le_refl _) _⟩
set_option maxRecDepth 100000 in
set_option maxHeartbeats 1000000 in
theorem loose_4 : LooseC (.mk 4 b i f t bs r l d c v) := by
  rintro x w ⟨Ab, cb, Al, cl, Ad, cd, rfl, hk, hi, ht, hbl, ⟨hbn, hbs⟩, hr0, hr1, hc, hv, ⟨hll, hl⟩, ⟨hdl, hd⟩⟩
  clear hbs hl hd
  unfold termOf
  go_enter Tryz.func160, Tryz.ntmps160
  go_wp2
  go_ret
  exact ⟨_, rfl, rfl, (Below.refl _ _).alloc (Nat.le_refl _) _⟩
set_option maxRecDepth 100000 in
set_option maxHeartbeats 1000000 in
theorem loose_5 : LooseC (.mk 5 b i f t bs r l d c v) := by
  rintro x w ⟨Ab, cb, Al, cl, Ad, cd, rfl, hk, hi, ht, hbl, ⟨hbn, hbs⟩, hr0, hr1, hc, hv, ⟨hll, hl⟩, ⟨hdl, hd⟩⟩
  clear hbs hl hd
  unfold termOf
  go_enter Tryz.func160, Tryz.ntmps160
  go_wp2
  go_ret
  exact ⟨_, rfl, ⟨rfl, ht⟩, (Below.refl _ _).alloc (Nat.le_refl _) _⟩
set_option maxRecDepth 100000 in
set_option maxHeartbeats 1000000 in
theorem loose_7 : LooseC (.mk 7 b i f t bs r l d c v) := by
  rintro x w ⟨Ab, cb, Al, cl, Ad, cd, rfl, hk, hi, ht, hbl, ⟨hbn, hbs⟩, hr0, hr1, hc, hv, ⟨hll, hl⟩, ⟨hdl, hd⟩⟩
  clear hbs hl hd
  unfold termOf
  go_enter Tryz.func160, Tryz.ntmps160
  go_wp2
  go_ret
  exact ⟨_, rfl, ⟨rfl, hr0, hr1⟩, (Below.refl _ _).alloc (Nat.le_refl _) _⟩
set_option maxRecDepth 100000 in
set_option maxHeartbeats 1000000 in
theorem loose_11 : LooseC (.mk 11 b i f t bs r l d c v) := by
  rintro x w ⟨Ab, cb, Al, cl, Ad, cd, rfl, hk, hi, ht, hbl, ⟨hbn, hbs⟩, hr0, hr1, hc, hv, ⟨hll, hl⟩, ⟨hdl, hd⟩⟩
  clear hbs hl hd
  unfold termOf
  go_enter Tryz.func160, Tryz.ntmps160
  go_wp2
  go_ret
  exact ⟨_, rfl, rfl, (Below.refl _ _).alloc (Nat.le_refl _) _⟩
set_option maxRecDepth 100000 in
set_option maxHeartbeats 1000000 in
theorem loose_9 (ih : ∀ p ∈ d, LooseC p.2) : LooseC (.mk 9 b i f t bs r l d c v) := by
  rintro x w ⟨Ab, cb, Al, cl, Ad, cd, rfl, hk, hi, ht, hbl, ⟨hbn, hbs⟩, hr0, hr1, hc, hv, ⟨hll, hl⟩, ⟨hdl, hd⟩⟩
  have HD := Lib.hid (fun (W : World) (hW : Below w.heap.size w W) => dict_any d ih Ad cd W hdl (EntsAt.more (EntsAt.below hd hW) hW.size))
  clear hbs hl hd ih
  unfold termOf
  go_enter Tryz.func160, Tryz.ntmps160
  go_wp2_with fail
  refine (HD.out _ ((Below.refl _ _).alloc (Nat.le_refl _) _)).mono ?_
  rintro e w1 ⟨A, c1, rfl, hA, hb1⟩
  go_wp2
  go_ret
  refine ⟨_, rfl, ⟨A, c1, rfl, by rw [builtD_eq, List.length_map]; omega, hA.more (fun b hb => ⟨?_, hb.2⟩)⟩, ((Below.refl _ _).alloc (Nat.le_refl _) _).trans (hb1.mono (by go_simp))⟩
  have := hb.1; simp at this; omega
set_option maxRecDepth 100000 in
set_option maxHeartbeats 1000000 in
theorem loose_10 (ih : ∀ p ∈ d, LooseC p.2) : LooseC (.mk 10 b i f t bs r l d c v) := by
  rintro x w ⟨Ab, cb, Al, cl, Ad, cd, rfl, hk, hi, ht, hbl, ⟨hbn, hbs⟩, hr0, hr1, hc, hv, ⟨hll, hl⟩, ⟨hdl, hd⟩⟩
  have HD := Lib.hid (fun (W : World) (hW : Below w.heap.size w W) => dict_any d ih Ad cd W hdl (EntsAt.more (EntsAt.below hd hW) hW.size))
  clear hbs hl hd ih
  unfold termOf
  go_enter Tryz.func160, Tryz.ntmps160
  go_wp2_with fail
  refine wp_region_heldS (fun W => Below (w.heap.size + 1) (w.alloc (.cells #[.int .i64 10, .bool b, .int .i64 i, .float .f64 f, .string t, .slice Ab bs.length cb, .int .u64 r, .slice Al l.length cl, .slice Ad d.length cd, .string c, .int .i64 v] 29)) W) 6 (by kernel_rfl) (by kernel_rfl) (fun _ _ _ _ _ h => h) ?_ ?_
  · ((exact below_drewN (Below.refl _ _) 1))
  simp only [List.take_succ_cons, List.take_zero]
  repeat (refine HdS.step (fun K hK => ?_); go_simp; first | (refine hK _ ?_; clear hK K) | (apply Exists.intro; refine ⟨fun W hW => ?_, hK _ ?_⟩; (first | (intros; rfl) | ((obtain ⟨hc, hf⟩ := bcellB hW; go_simp; rfl))); clear hK K))
  refine HdS.nil ?_
  simp only [List.drop_succ_cons, List.drop_zero]
  refine SeqS.step (fun K hK => ?_)
  go_simp
  go_at_call 218
  refine (HD.out _ (below_drewN ((Below.refl _ _).alloc (Nat.le_refl _) _) 1)).mono ?_
  rintro e w1 ⟨A, c1, rfl, hA, hb1⟩
  have hS1 : Below (w.heap.size + 1) (w.alloc (.cells #[.int .i64 10, .bool b, .int .i64 i, .float .f64 f, .string t, .slice Ab bs.length cb, .int .u64 r, .slice Al l.length cl, .slice Ad d.length cd, .string c, .int .i64 v] 29)) w1 :=
    (below_drewN (Below.refl _ _) 1).trans (hb1.mono (by go_simp))
  have hz1 : w.heap.size + 1 ≤ w1.heap.size := by have := hS1.size; simp at this; omega
  have hb2 : Below w.heap.size w w1 := ((Below.refl _ _).alloc (Nat.le_refl _) _).trans (hS1.mono (by omega))
  refine hK _ _ hS1 ?_
  clear hK K
  refine SeqS.step (fun K hK => ?_)
  go_simp
  refine hK _ _ hS1 ?_
  clear hK K
  have hS2 := hS1.alloc hz1 (.cells #[.string c, .int .i64 v, .slice A (builtD d).length c1] 75)
  refine SeqS.step (fun K hK => ?_)
  go_simp
  refine hK _ _ hS2 ?_
  clear hK K
  refine SeqS.step (fun K hK => ?_)
  go_simp
  refine hK _ _ hS2 ?_
  clear hK K
  refine SeqS.step (fun K hK => ?_)
  go_simp
  refine hK _ _ hS2 ?_
  clear hK K
  refine SeqS.nil ?_
  go_wp2
  go_ret
  refine ⟨_, rfl, ⟨w1.heap.size, rfl, ⟨by omega, by simp⟩, hc, by simp [go_sem], by simp [go_sem], hv.1, hv.2, A, c1, by simp [go_sem], by rw [builtD_eq, List.length_map]; omega, ?_⟩, hb2.alloc (by omega) _⟩
  refine DictS.more (DictS.keep hA (fun p hp => ?_)) (fun b hb => ?_)
  · exact ((Below.refl w1.heap.size w1).alloc (Nat.le_refl _) _).cell hp.2
  · have h1 := hb.1; have h2 := hb.2; simp at h1; exact ⟨by omega, by simp; omega⟩
set_option maxRecDepth 100000 in
set_option maxHeartbeats 1000000 in
theorem loose_6 : LooseC (.mk 6 b i f t bs r l d c v) := by
  rintro x w ⟨Ab, cb, Al, cl, Ad, cd, rfl, hk, hi, ht, hbl, ⟨hbn, hbs⟩, hr0, hr1, hc, hv, ⟨hll, hl⟩, ⟨hdl, hd⟩⟩
  obtain ⟨i0, hi0, hz0, hz1, hz2⟩ := info_parts Tryz.infoByte
  have hS : Below w.heap.size w ((w.alloc (.cells #[.int .i64 6, .bool b, .int .i64 i, .float .f64 f, .string t, .slice Ab bs.length cb, .int .u64 r, .slice Al l.length cl, .slice Ad d.length cd, .string c, .int .i64 v] 29)).alloc (.cells #[] 5)) := ((Below.refl _ _).alloc (Nat.le_refl _) _).alloc (by simp) _
  have hown := ownsRow_empty (w.alloc (.cells #[.int .i64 6, .bool b, .int .i64 i, .float .f64 f, .string t, .slice Ab bs.length cb, .int .u64 r, .slice Al l.length cl, .slice Ad d.length cd, .string c, .int .i64 v] 29)) w.heap.size 5 1 (by simp)
  simp at hown
  have hbs2 := hbs.keep (fun p hp => hS.cell hp)
  clear hl hd hbs
  cases Ab with
  | none =>
    obtain rfl := hbn rfl
    have hb0 : bs = [] := by
      rcases hbs2 with h | ⟨b, off, h, _⟩
      · exact h
      · cases h
    subst hb0
    unfold termOf
    go_enter Tryz.func160, Tryz.ntmps160
    go_wp2
    go_ret
    exact ⟨_, rfl, ⟨_, 0, rfl, by simp, (fun h => by cases h), .inl rfl⟩, hS⟩
  | some ad =>
    have hnews := ByteRow.news hbs2
    unfold termOf
    go_enter Tryz.func160, Tryz.ntmps160
    go_wp2_with (at_builtin; go_must (refine wpList_append_own _ rfl (.tmp 32) (.tmp 34) 23 rfl w.heap.size 5 i0 _ 1 1 Tryz.underlying23 hi0 hz0 hz1 hz2 rfl (by omega) (.slice (some ⟨w.heap.size + 1, 0, none⟩) 0 0) 0 [] rfl hown ad bs.length cb (bvals bs) rfl (by simp [bvals]) hnews (one_bvals bs) (by simp only [maxLen]; omega) (by omega) (by simp; omega) ?_); intro v' w2 hown2 hg2 hnil)
    rw [Nat.zero_add, List.nil_append] at hown2
    obtain ⟨A2, c2, rfl, hA2, hB2⟩ := bytes_of_row hown2
    go_wp2
    go_ret
    exact ⟨_, rfl, ⟨A2, c2, rfl, hbl, hA2, hB2⟩, hS.grown hg2 hS.size (fun j hj => by simp [Value.ownBlock] at hj; omega)⟩
end
end Go.Proofs.YtobpkelblpdajaaGreatDoor
