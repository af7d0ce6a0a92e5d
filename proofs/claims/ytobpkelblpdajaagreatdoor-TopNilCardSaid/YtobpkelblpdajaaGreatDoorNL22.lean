/- Walks: value.copied, value.Copy. -/
import Derived.Test.YtobpkelblpdajaaGreatDoorNL21
set_option linter.unusedVariables false
set_option linter.unusedSimpArgs false
set_option linter.unusedSectionVars false
namespace Go.Proofs.YtobpkelblpdajaaGreatDoor
open Go Go.RowKit
attribute [local go_sem] ta_no_bool ta_yes_bool ta_nil_bool ta_no_int64 ta_yes_int64 ta_nil_int64 ta_no_flt ta_yes_flt ta_nil_flt ta_no_str ta_yes_str ta_nil_str ta_no_byt ta_yes_byt ta_nil_byt ta_no_ref ta_yes_ref ta_nil_ref ta_no_lst ta_yes_lst ta_nil_lst ta_no_dct ta_yes_dct ta_nil_dct ta_no_rec ta_yes_rec ta_nil_rec
set_option maxRecDepth 100000 in
set_option maxHeartbeats 1000000 in
theorem copied_nil : CopyC (.nil) := by
  intro _ v w hx
  obtain rfl := hx
  go_enter Tryz.func49, Tryz.ntmps49
  go_wp2
  go_ret
  exact ⟨_, rfl, rfl, Below.refl _ _⟩
set_option maxRecDepth 100000 in
set_option maxHeartbeats 1000000 in
theorem copied_bool (b : Bool) : CopyC (.bool b) := by
  intro _ v w hx
  obtain rfl := hx
  go_enter Tryz.func49, Tryz.ntmps49
  go_wp2
  go_ret
  exact ⟨_, rfl, rfl, Below.refl _ _⟩
set_option maxRecDepth 100000 in
set_option maxHeartbeats 1000000 in
theorem copied_int (i : Int) : CopyC (.int i) := by
  intro _ v w hx
  obtain ⟨rfl, h1⟩ := hx
  go_enter Tryz.func49, Tryz.ntmps49
  go_wp2
  go_ret
  exact ⟨_, rfl, ⟨rfl, h1⟩, Below.refl _ _⟩
set_option maxRecDepth 100000 in
set_option maxHeartbeats 1000000 in
theorem copied_flt (i : Nat) : CopyC (.flt i) := by
  intro _ v w hx
  obtain rfl := hx
  go_enter Tryz.func49, Tryz.ntmps49
  go_wp2
  go_ret
  exact ⟨_, rfl, rfl, Below.refl _ _⟩
set_option maxRecDepth 100000 in
set_option maxHeartbeats 1000000 in
theorem copied_text (t : ByteArray) : CopyC (.text t) := by
  intro _ v w hx
  obtain ⟨rfl, h1⟩ := hx
  go_enter Tryz.func49, Tryz.ntmps49
  go_wp2
  go_ret
  exact ⟨_, rfl, ⟨rfl, h1⟩, Below.refl _ _⟩
set_option maxRecDepth 100000 in
set_option maxHeartbeats 1000000 in
theorem copied_ref (i : Int) : CopyC (.ref i) := by
  intro _ v w hx
  obtain ⟨rfl, h1⟩ := hx
  go_enter Tryz.func49, Tryz.ntmps49
  go_wp2
  go_ret
  exact ⟨_, rfl, ⟨rfl, h1⟩, Below.refl _ _⟩
set_option maxRecDepth 100000 in
set_option maxHeartbeats 1000000 in
theorem copied_dict (l : List (ByteArray × V)) (ih : ∀ p ∈ l, CopyC p.2) : CopyC (.dict l) := by
  intro hf v w hx
  obtain ⟨A, c, rfl, hl, hD⟩ := hx
  have HD := Lib.hid (copiedDict_any l ih hf A c w hl hD)
  clear hD ih hf
  go_enter Tryz.func49, Tryz.ntmps49
  go_wp2_with fail
  refine HD.out.mono ?_
  rintro e w1 ⟨A1, c1, rfl, hA, hb1⟩
  go_wp2
  go_ret
  exact ⟨_, rfl, ⟨A1, c1, rfl, hl, hA⟩, hb1⟩
set_option maxRecDepth 100000 in
set_option maxHeartbeats 1000000 in
theorem copied_bytes (bs : List UInt8) : CopyC (.bytes bs) := by
  intro _ v w hx
  obtain ⟨A, c, rfl, hbl, hn, hbs⟩ := hx
  obtain ⟨i0, hi0, hz0, hz1, hz2⟩ := info_parts Tryz.infoByte
  have hS : Below w.heap.size w (w.alloc (.cells #[] 5)) := (Below.refl _ _).alloc (Nat.le_refl _) _
  have hown := ownsRow_empty w w.heap.size 5 1 (Nat.le_refl _)
  have hbs2 := hbs.keep (fun p hp => hS.cell hp)
  clear hbs
  cases A with
  | none =>
    obtain rfl := hn rfl
    have hb0 : bs = [] := by
      rcases hbs2 with h | ⟨b, off, h, _⟩
      · exact h
      · cases h
    subst hb0
    go_enter Tryz.func49, Tryz.ntmps49
    go_wp2
    go_ret
    exact ⟨_, rfl, ⟨_, 0, rfl, by simp, (fun h => by cases h), .inl rfl⟩, hS⟩
  | some ad =>
    have hnews := ByteRow.news hbs2
    go_enter Tryz.func49, Tryz.ntmps49
    go_wp2_with (at_builtin; go_must (refine wpList_append_own _ rfl (.tmp 14) (.tmp 15) 23 rfl w.heap.size 5 i0 _ 1 1 Tryz.underlying23 hi0 hz0 hz1 hz2 rfl (by omega) (.slice (some ⟨w.heap.size, 0, none⟩) 0 0) 0 [] rfl hown ad bs.length c (bvals bs) rfl (by simp [bvals]) hnews (one_bvals bs) (by simp only [maxLen]; omega) (by omega) (by simp) ?_); intro v' w2 hown2 hg2 hnil)
    rw [Nat.zero_add, List.nil_append] at hown2
    obtain ⟨A2, c2, rfl, hA2, hB2⟩ := bytes_of_row hown2
    go_wp2
    go_ret
    exact ⟨_, rfl, ⟨A2, c2, rfl, hbl, hA2, hB2⟩, hS.grown hg2 hS.size (fun j hj => by simp [Value.ownBlock] at hj; omega)⟩
set_option maxRecDepth 100000 in
set_option maxHeartbeats 1000000 in
theorem copied_list (l : List V) (ih : ∀ x ∈ l, CopyC x) : CopyC (.list l) := by
  intro hf v w hx
  obtain ⟨A, c, rfl, hll, -, hl⟩ := hx
  obtain ⟨i0, hi0, hz0, hz1, hz2⟩ := info_parts Tryz.infoAny
  go_enter Tryz.func49, Tryz.ntmps49
  go_wp2_with (at_make; go_must (refine wpList_make_own _ rfl _ _ 43 rfl w.heap.size 20 i0 _ 1 Tryz.underlying43 hi0 hz0 hz1 .i64 .i64 _ l.length rfl rfl rfl (by rw [hz2]; omega) (by simp only [maxLen]; omega) (Nat.le_refl _) ?_); intro w0 hown0 hg0)
  have hb0 : Below w.heap.size w w0 := (Below.refl _ _).grown hg0 (Nat.le_refl _) (fun _ h => by cases h)
  have hO0 : OwnV (fun b => w.heap.size ≤ b) w0 w.heap.size (.slice (some ⟨w.heap.size, 0, none⟩) 0 l.length) [] := ⟨[], hown0, fun i x h => by simp at h⟩
  go_loopw [5, 26] (fun y j wr => ∃ k : Nat, j = .int .i64 k ∧ k ≤ l.length ∧ Below w.heap.size w wr ∧ OwnV (fun b => w.heap.size ≤ b) wr w.heap.size y (l.take k)) (fun _ j _ => l.length - (intOf j).toNat)
  case atStart => exact ⟨0, rfl, by omega, hb0, by simpa using hO0⟩
  case round =>
    clear hO0 hown0 hg0 hb0
    obtain ⟨k, rfl, hk, hb, hO⟩ := hrel
    obtain ⟨A1, c1, rfl⟩ := hO.form
    have hz := hb.size
    by_cases hlt : k < l.length
    · obtain ⟨bl, off, rfl, hbB, hr⟩ : ∃ b off, A = some ⟨b, off, none⟩ ∧ b < w.heap.size ∧ RdL w (fun b => b < w.heap.size) b off l := by
        rcases hl with h | h
        · subst h; simp at hlt
        · exact h
      obtain ⟨p, hp⟩ : ∃ p, l[k]? = some p := ⟨_, List.getElem?_eq_getElem hlt⟩
      obtain ⟨n0, e1, hv⟩ := RdL.iff.1 hr k p hp
      have HC := Lib.hid (ih p (List.mem_of_getElem? hp) (fineL_iff.1 hf p (List.mem_of_getElem? hp)) n0 wr (RdS.more (fun b h => Nat.lt_of_lt_of_le h hz) _ _ (hv.below hb)))
      have q0 := (hb.cell (p := ⟨bl, off + k, none⟩) hbB).trans e1
      have hvo := hv.one
      have hxl : (l.take k).length = k := by simp; omega
      have HT : Hid (l.take (k + 1) = l.take k ++ [p]) := Lib.hid (by rw [List.take_add_one, hp]; simp)
      clear hp e1 hv hr hl ih hf
      go_wp2_with fail
      refine HC.out.mono ?_
      rintro e w1 ⟨u, rfl, hu, hbw⟩
      have hz1' : wr.heap.size ≤ w1.heap.size := hbw.size
      have hba : Below w1.heap.size w1 (w1.alloc (.cells #[u] 20)) := (Below.refl _ _).alloc (Nat.le_refl _) _
      have hbx : Below wr.heap.size wr (w1.alloc (.cells #[u] 20)) := hbw.trans (hba.mono hz1')
      have hS2 := hb.trans (hbx.mono hz)
      have hO2 := hO.below hbx
      obtain ⟨xs0, hown0, _⟩ := hO
      rw [hxl] at hown0
      have hu2 := fresh_of_new (F := fun b => w.heap.size ≤ b) hu hba (fun b h => Nat.le_trans hz h) hown0
      obtain ⟨xs, hown, hx⟩ := hO2
      rw [hxl] at hown
      rw [hxl] at hx
      have hou := hu.one
      have hz3 : w.heap.size ≤ (w1.alloc (.cells #[u] 20)).heap.size := by simp; omega
      rcases hu.face with rfl | ⟨ty, y, rfl⟩
      all_goals
        clear hu
        go_wp2_with (at_builtin; go_must (refine wpList_append_lies _ rfl (.tmp 30) (.tmp 33) 43 rfl w.heap.size 20 i0 _ 1 16 Tryz.underlying43 hi0 hz0 hz1 hz2 rfl (by omega) (.slice A1 k c1) k xs rfl hown ⟨w1.heap.size, 0, none⟩ 1 1 [_] rfl rfl (news_at rfl) (one_of1 hou) (by omega) (by simp only [maxLen]; omega) (by omega) hz3 _ rfl ?_); intro g cap w2 hown2 hg2 hat hlt2)
        refine ⟨⟨k + 1, rfl, hlt, hS2.grown hg2 hz3 (fun j hj => (hown.lt j hj).1), ?_⟩, ?_⟩
        · rw [HT.out]; exact OwnV.snoc hxl hown hx hu2 hown2 hg2 hat
        · simp [intOf]; omega
    · obtain rfl : k = l.length := by omega
      rw [List.take_length] at hO ⊢
      have hR := hO.read (by omega)
      clear hO
      go_wp2
      go_ret
      exact ⟨_, rfl, RdS.more (fun b hb => ⟨hb.1.elim id id, hb.2⟩) _ _ hR, hb⟩
set_option maxRecDepth 100000 in
set_option maxHeartbeats 1000000 in
theorem copied_record (cls : ByteArray) (ver : Int) (l : List (ByteArray × V)) (ih : ∀ p ∈ l, CopyC p.2) : CopyC (.record cls ver l) := by
  intro hf v w hx
  obtain ⟨b, rfl, hbB, hcs, c0, c1, hv0, hv1, A, c, c2, hl, hD⟩ := hx
  have HD := Lib.hid (fun (W : World) (hW : Below w.heap.size w W) => copiedDict_any l ih hf A c W hl (DictAt.more (DictAt.below hD hW) hW.size))
  clear hD ih hf
  go_enter Tryz.func49, Tryz.ntmps49
  go_wp2_with fail
  refine wp_region_heldS (fun W => Below w.heap.size w W) 12 (by kernel_rfl) (by kernel_rfl) (fun _ _ _ _ _ h => h) ?_ ?_
  · ((exact below_drewN (Below.refl _ _) 1))
  simp only [List.take_succ_cons, List.take_zero]
  repeat (refine HdS.step (fun K hK => ?_); go_simp; first | (refine hK _ ?_; clear hK K) | (apply Exists.intro; refine ⟨fun W hW => ?_, hK _ ?_⟩; (first | (intros; rfl) | ((have d0 := (hW.cell (p := ⟨b, 0, none⟩) hbB).trans c0; have d1 := (hW.cell (p := ⟨b, 1, none⟩) hbB).trans c1; have d2 := (hW.cell (p := ⟨b, 2, none⟩) hbB).trans c2; go_simp; rfl))); clear hK K))
  refine HdS.nil ?_
  simp only [List.drop_succ_cons, List.drop_zero]
  refine SeqS.step (fun K hK => ?_)
  go_simp
  go_at_call 86
  refine (HD.out _ (below_drewN (Below.refl _ _) 1)).mono ?_
  rintro e w1 ⟨A1, c3, rfl, hA, hb1⟩
  have hS1 : Below w.heap.size w w1 := (below_drewN (Below.refl _ _) 1).trans (hb1.mono (by go_simp))
  have hz1 := hS1.size
  refine hK _ _ hS1 ?_
  clear hK K
  refine SeqS.step (fun K hK => ?_)
  go_simp
  refine hK _ _ hS1 ?_
  clear hK K
  have hS2 := hS1.alloc hz1 (.cells #[.string cls, .int .i64 ver, .slice A1 l.length c3] 75)
  refine SeqS.step (fun K hK => ?_)
  go_simp
  refine hK _ _ hS2 ?_
  clear hK K
  refine SeqS.step (fun K hK => ?_)
  go_simp
  refine hK _ _ hS2 ?_
  clear hK K
  refine SeqS.step (fun K hK => ?_)
  go_simp
  refine hK _ _ hS2 ?_
  clear hK K
  refine SeqS.nil ?_
  go_wp2
  go_ret
  refine ⟨_, rfl, ⟨w1.heap.size, rfl, ⟨hz1, by simp⟩, hcs, by simp [go_sem], by simp [go_sem], hv0, hv1, A1, c3, by simp [go_sem], hl, ?_⟩, hS2⟩
  refine DictS.more (DictS.keep hA (fun p hp => ?_)) (fun b hb => ?_)
  · exact ((Below.refl w1.heap.size w1).alloc (Nat.le_refl _) _).cell hp.2
  · have h1 := hb.1; have h2 := hb.2; simp at h1; exact ⟨by omega, by simp; omega⟩
theorem copied_any (x : V) : CopyC x := by
  induction x using V.ind with
  | h0 => exact copied_nil
  | h1 b => exact copied_bool b
  | h2 b => exact copied_int b
  | h3 b => exact copied_flt b
  | h4 b => exact copied_text b
  | h5 b => exact copied_bytes b
  | h6 b => exact copied_ref b
  | h7 l ih => exact copied_list l ih
  | h8 l ih => exact copied_dict l ih
  | h9 c v l ih => exact copied_record c v l ih
  | h10 => exact fun h => absurd h (by simp [fineV])
  | h11 => exact fun h => absurd h (by simp [fineV])
end Go.Proofs.YtobpkelblpdajaaGreatDoor
