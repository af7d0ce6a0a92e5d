/- Walks: the value of a term (mk.Built), kind by kind. -/
import Derived.Test.YtobpkelblpdajaaGreatDoorTX07
import Derived.Laws.AppendOwnNone
import Derived.WideMake
set_option linter.unusedVariables false
set_option linter.unusedSimpArgs false
set_option linter.unusedSectionVars false
namespace Go.Proofs.YtobpkelblpdajaaGreatDoor
open Go Go.RowKit
theorem Tryz.infoByte : (Tryz.prog.info? 5).map (fun i => (i.zero, i.size, i.bytes)) = some (some (.int .u8 0), 1, 1) := by kernel_rfl
section
variable (b : Bool) (i : Int) (f : Nat) (t : ByteArray) (bs : List UInt8) (r : Int) (l : List Tm) (d : List (ByteArray × Tm)) (c : ByteArray) (v : Int)
set_option maxRecDepth 100000 in
set_option maxHeartbeats 1000000 in
theorem built_1 : BuiltC (.mk 1 b i f t bs r l d c v) := by
  rintro x w ⟨Ab, cb, Al, cl, Ad, cd, rfl, hk, hi, ht, hbl, ⟨hbn, hbs⟩, hr0, hr1, hc, hv, ⟨hll, hl⟩, ⟨hdl, hd⟩⟩
  clear hbs hl hd
  unfold termOf
  go_enter Tryz.func12, Tryz.ntmps12
  go_wp2
  go_ret
  exact ⟨_, rfl, rfl, (Below.refl _ _).alloc (Nat.le_refl _) _⟩
set_option maxRecDepth 100000 in
set_option maxHeartbeats 1000000 in
theorem built_2 : BuiltC (.mk 2 b i f t bs r l d c v) := by
  rintro x w ⟨Ab, cb, Al, cl, Ad, cd, rfl, hk, hi, ht, hbl, ⟨hbn, hbs⟩, hr0, hr1, hc, hv, ⟨hll, hl⟩, ⟨hdl, hd⟩⟩
  clear hbs hl hd
  unfold termOf
  go_enter Tryz.func12, Tryz.ntmps12
  go_wp2
  go_ret
  exact ⟨_, rfl, rfl, (Below.refl _ _).alloc (Nat.le_refl _) _⟩
set_option maxRecDepth 100000 in
set_option maxHeartbeats 1000000 in
theorem built_3 : BuiltC (.mk 3 b i f t bs r l d c v) := by
  rintro x w ⟨Ab, cb, Al, cl, Ad, cd, rfl, hk, hi, ht, hbl, ⟨hbn, hbs⟩, hr0, hr1, hc, hv, ⟨hll, hl⟩, ⟨hdl, hd⟩⟩
  clear hbs hl hd
  unfold termOf
  go_enter Tryz.func12, Tryz.ntmps12
  go_wp2
  go_ret
  exact ⟨_, rfl, ⟨rfl, hi⟩, (Below.refl _ _).alloc (Nat.le_refl _) _⟩
set_option maxRecDepth 100000 in
set_option maxHeartbeats 1000000 in
theorem built_4 : BuiltC (.mk 4 b i f t bs r l d c v) := by
  rintro x w ⟨Ab, cb, Al, cl, Ad, cd, rfl, hk, hi, ht, hbl, ⟨hbn, hbs⟩, hr0, hr1, hc, hv, ⟨hll, hl⟩, ⟨hdl, hd⟩⟩
  clear hbs hl hd
  unfold termOf
  go_enter Tryz.func12, Tryz.ntmps12
  go_wp2
  go_ret
  exact ⟨_, rfl, rfl, (Below.refl _ _).alloc (Nat.le_refl _) _⟩
set_option maxRecDepth 100000 in
set_option maxHeartbeats 1000000 in
theorem built_5 : BuiltC (.mk 5 b i f t bs r l d c v) := by
  rintro x w ⟨Ab, cb, Al, cl, Ad, cd, rfl, hk, hi, ht, hbl, ⟨hbn, hbs⟩, hr0, hr1, hc, hv, ⟨hll, hl⟩, ⟨hdl, hd⟩⟩
  clear hbs hl hd
  unfold termOf
  go_enter Tryz.func12, Tryz.ntmps12
  go_wp2
  go_ret
  exact ⟨_, rfl, ⟨rfl, ht⟩, (Below.refl _ _).alloc (Nat.le_refl _) _⟩
set_option maxRecDepth 100000 in
set_option maxHeartbeats 1000000 in
theorem built_7 : BuiltC (.mk 7 b i f t bs r l d c v) := by
  rintro x w ⟨Ab, cb, Al, cl, Ad, cd, rfl, hk, hi, ht, hbl, ⟨hbn, hbs⟩, hr0, hr1, hc, hv, ⟨hll, hl⟩, ⟨hdl, hd⟩⟩
  clear hbs hl hd
  unfold termOf
  go_enter Tryz.func12, Tryz.ntmps12
  go_wp2
  go_ret
  exact ⟨_, rfl, ⟨rfl, hr0, hr1⟩, (Below.refl _ _).alloc (Nat.le_refl _) _⟩
set_option maxRecDepth 100000 in
set_option maxHeartbeats 1000000 in
theorem built_11 : BuiltC (.mk 11 b i f t bs r l d c v) := by
  rintro x w ⟨Ab, cb, Al, cl, Ad, cd, rfl, hk, hi, ht, hbl, ⟨hbn, hbs⟩, hr0, hr1, hc, hv, ⟨hll, hl⟩, ⟨hdl, hd⟩⟩
  clear hbs hl hd
  unfold termOf
  go_enter Tryz.func12, Tryz.ntmps12
  go_wp2
  go_ret
  exact ⟨_, rfl, rfl, (Below.refl _ _).alloc (Nat.le_refl _) _⟩
set_option maxRecDepth 100000 in
set_option maxHeartbeats 1000000 in
theorem built_9 (ih : ∀ p ∈ d, BuiltC p.2) : BuiltC (.mk 9 b i f t bs r l d c v) := by
  rintro x w ⟨Ab, cb, Al, cl, Ad, cd, rfl, hk, hi, ht, hbl, ⟨hbn, hbs⟩, hr0, hr1, hc, hv, ⟨hll, hl⟩, ⟨hdl, hd⟩⟩
  have HD := Lib.hid (fun (W : World) (hW : Below w.heap.size w W) => Dict_any d ih Ad cd W hdl (EntsAt.more (EntsAt.below hd hW) hW.size))
  clear hbs hl hd ih
  unfold termOf
  go_enter Tryz.func12, Tryz.ntmps12
  go_wp2_with fail
  refine (HD.out _ ((Below.refl _ _).alloc (Nat.le_refl _) _)).mono ?_
  rintro e w1 ⟨A, c1, rfl, hA, hb1⟩
  go_wp2
  go_ret
  refine ⟨_, rfl, ⟨A, c1, rfl, by rw [builtD_eq, List.length_map]; omega, hA.more (fun b hb => ⟨?_, hb.2⟩)⟩, ((Below.refl _ _).alloc (Nat.le_refl _) _).trans (hb1.mono (by go_simp))⟩
  have := hb.1; simp at this; omega
set_option maxRecDepth 100000 in
set_option maxHeartbeats 1000000 in
theorem built_10 (ih : ∀ p ∈ d, BuiltC p.2) : BuiltC (.mk 10 b i f t bs r l d c v) := by
  rintro x w ⟨Ab, cb, Al, cl, Ad, cd, rfl, hk, hi, ht, hbl, ⟨hbn, hbs⟩, hr0, hr1, hc, hv, ⟨hll, hl⟩, ⟨hdl, hd⟩⟩
  have HD := Lib.hid (fun (W : World) (hW : Below w.heap.size w W) => Dict_any d ih Ad cd W hdl (EntsAt.more (EntsAt.below hd hW) hW.size))
  clear hbs hl hd ih
  unfold termOf
  go_enter Tryz.func12, Tryz.ntmps12
  go_wp2_with fail
  refine wp_region_heldS (fun W => Below (w.heap.size + 1) (w.alloc (.cells #[.int .i64 10, .bool b, .int .i64 i, .float .f64 f, .string t, .slice Ab bs.length cb, .int .u64 r, .slice Al l.length cl, .slice Ad d.length cd, .string c, .int .i64 v] 29)) W) 6 (by kernel_rfl) (by kernel_rfl) (fun _ _ _ _ _ h => h) ?_ ?_
  · ((exact below_drewN (Below.refl _ _) 1))
  simp only [List.take_succ_cons, List.take_zero]
  repeat (refine HdS.step (fun K hK => ?_); go_simp; first | (refine hK _ ?_; clear hK K) | (apply Exists.intro; refine ⟨fun W hW => ?_, hK _ ?_⟩; (first | (intros; rfl) | ((obtain ⟨hc, hf⟩ := bcellB hW; go_simp; rfl))); clear hK K))
  refine HdS.nil ?_
  simp only [List.drop_succ_cons, List.drop_zero]
  refine SeqS.step (fun K hK => ?_)
  go_simp
  go_at_call 47
  refine (HD.out _ (below_drewN ((Below.refl _ _).alloc (Nat.le_refl _) _) 1)).mono ?_
  rintro e w1 ⟨A, c1, rfl, hA, hb1⟩
  have hS1 : Below (w.heap.size + 1) (w.alloc (.cells #[.int .i64 10, .bool b, .int .i64 i, .float .f64 f, .string t, .slice Ab bs.length cb, .int .u64 r, .slice Al l.length cl, .slice Ad d.length cd, .string c, .int .i64 v] 29)) w1 :=
    (below_drewN (Below.refl _ _) 1).trans (hb1.mono (by go_simp))
  have hz1 : w.heap.size + 1 ≤ w1.heap.size := by have := hS1.size; simp at this; omega
  have hb2 : Below w.heap.size w w1 := ((Below.refl _ _).alloc (Nat.le_refl _) _).trans (hS1.mono (by omega))
  refine hK _ _ hS1 ?_
  clear hK K
  refine SeqS.step (fun K hK => ?_)
  go_simp
  refine hK _ _ hS1 ?_
  clear hK K
  have hS2 := hS1.alloc hz1 (.cells #[.string c, .int .i64 v, .slice A (builtD d).length c1] 75)
  refine SeqS.step (fun K hK => ?_)
  go_simp
  refine hK _ _ hS2 ?_
  clear hK K
  refine SeqS.step (fun K hK => ?_)
  go_simp
  refine hK _ _ hS2 ?_
  clear hK K
  refine SeqS.step (fun K hK => ?_)
  go_simp
  refine hK _ _ hS2 ?_
  clear hK K
  refine SeqS.nil ?_
  go_wp2
  go_ret
  refine ⟨_, rfl, ⟨w1.heap.size, rfl, ⟨by omega, by simp⟩, hc, by simp [go_sem], by simp [go_sem], hv.1, hv.2, A, c1, by simp [go_sem], by rw [builtD_eq, List.length_map]; omega, ?_⟩, hb2.alloc (by omega) _⟩
  refine DictS.more (DictS.keep hA (fun p hp => ?_)) (fun b hb => ?_)
  · exact ((Below.refl w1.heap.size w1).alloc (Nat.le_refl _) _).cell hp.2
  · have h1 := hb.1; have h2 := hb.2; simp at h1; exact ⟨by omega, by simp; omega⟩
set_option maxRecDepth 100000 in
set_option maxHeartbeats 1000000 in
theorem built_8 (ih : ∀ x ∈ l, BuiltC x) : BuiltC (.mk 8 b i f t bs r l d c v) := by
  rintro x w ⟨Ab, cb, Al, cl, Ad, cd, rfl, hk, hi, ht, hbl, ⟨hbn, hbs⟩, hr0, hr1, hc, hv, ⟨hll, hl⟩, ⟨hdl, hd⟩⟩
  obtain ⟨i0, hi0, hz0, hz1, hz2⟩ := info_parts Tryz.infoAny
  have HA : Hid (Below w.heap.size w (w.alloc (.cells #[.int .i64 8, .bool b, .int .i64 i, .float .f64 f, .string t, .slice Ab bs.length cb, .int .u64 r, .slice Al l.length cl, .slice Ad d.length cd, .string c, .int .i64 v] 29))) := Lib.hid ((Below.refl _ _).alloc (Nat.le_refl _) _)
  clear hbs hd
  unfold termOf
  go_enter Tryz.func12, Tryz.ntmps12
  go_wp2
  go_loopw [3, 4] (fun y j wr => ∃ k : Nat, j = .int .i64 k ∧ k ≤ l.length ∧ Below (w.heap.size + 1) (w.alloc (.cells #[.int .i64 8, .bool b, .int .i64 i, .float .f64 f, .string t, .slice Ab bs.length cb, .int .u64 r, .slice Al l.length cl, .slice Ad d.length cd, .string c, .int .i64 v] 29)) wr ∧ OwnV (fun b => w.heap.size + 1 ≤ b) wr (w.heap.size + 1) y (builtL (l.take k))) (fun _ j _ => l.length - (intOf j).toNat)
  case atStart =>
    refine ⟨0, rfl, by omega, (Below.refl _ _).alloc (by simp) _, ?_⟩
    have := OwnV.empty (fun b => w.heap.size + 1 ≤ b) (w.alloc (.cells #[.int .i64 8, .bool b, .int .i64 i, .float .f64 f, .string t, .slice Ab bs.length cb, .int .u64 r, .slice Al l.length cl, .slice Ad d.length cd, .string c, .int .i64 v] 29)) (w.heap.size + 1) (by simp)
    simpa [builtL] using this
  case round =>
    obtain ⟨k, rfl, hk, hb, hO⟩ := hrel
    obtain ⟨A1, c1, rfl⟩ := hO.form
    have hz : w.heap.size + 1 ≤ wr.heap.size := by have := hb.size; simp at this; omega
    have hb0 : Below w.heap.size w wr := HA.out.trans (hb.mono (by omega))
    have c7 : wr.cell? ⟨w.heap.size, 7, none⟩ = some (.slice Al l.length cl) := (hb.cell (p := ⟨w.heap.size, 7, none⟩) (show w.heap.size < w.heap.size + 1 by omega)).trans (by simp [go_sem])
    by_cases hlt : k < l.length
    · obtain ⟨bl, off, rfl, hbB, hr⟩ := TermsAt.at_ hl hlt
      obtain ⟨p, hp⟩ : ∃ p, l[k]? = some p := ⟨_, List.getElem?_eq_getElem hlt⟩
      obtain ⟨vs, e1, hvs⟩ := RdTL.iff.1 hr k p hp
      have HC := Lib.hid (fun (W : World) (hW : Below wr.heap.size wr W) => ih p (List.mem_of_getElem? hp) vs W (RdT.more (Nat.le_trans (by omega) hW.size) _ _ (RdT.below hvs (hb0.trans (hW.mono (by omega))))))
      obtain ⟨n0, n1, n2, n3, n4, n5, n6, n7, n8, n9, n10, rfl, h1c⟩ := hvs.eleven
      have e1' := e1.keep (fun p hp => hb0.cell (by rw [hp]; exact hbB))
      have q0 := e1' 0 _ rfl
      have q1 := e1' 1 _ rfl
      have q2 := e1' 2 _ rfl
      have q3 := e1' 3 _ rfl
      have q4 := e1' 4 _ rfl
      have q5 := e1' 5 _ rfl
      have q6 := e1' 6 _ rfl
      have q7 := e1' 7 _ rfl
      have q8 := e1' 8 _ rfl
      have q9 := e1' 9 _ rfl
      have q10 := e1' 10 _ rfl
      simp only [Nat.add_zero] at q0
      have hxl : (builtL (l.take k)).length = k := by rw [builtL_eq]; simp; omega
      have HT : Hid (builtL (l.take (k + 1)) = builtL (l.take k) ++ [builtV p]) := Lib.hid (by rw [builtL_eq, builtL_eq, List.take_add_one, hp]; simp)
      clear hp e1 e1' hvs hr hl ih h1c
      go_wp2_with fail
      refine (HC.out _ (Below.refl _ _)).mono ?_
      rintro e w1 ⟨u, rfl, hu, hbw⟩
      have hz1' : wr.heap.size ≤ w1.heap.size := hbw.size
      have hba : Below w1.heap.size w1 (w1.alloc (.cells #[u] 20)) := (Below.refl _ _).alloc (Nat.le_refl _) _
      have hbx : Below wr.heap.size wr (w1.alloc (.cells #[u] 20)) := hbw.trans (hba.mono hz1')
      have hS2 := hb.trans (hbx.mono hz)
      have hO2 := hO.below hbx
      obtain ⟨xs0, hown0, _⟩ := hO
      rw [hxl] at hown0
      have hu2 := fresh_of_new (F := fun b => w.heap.size + 1 ≤ b) hu hba (fun b h => Nat.le_trans hz h) hown0
      obtain ⟨xs, hown, hx⟩ := hO2
      rw [hxl] at hown
      rw [hxl] at hx
      have hou := hu.one
      have hz3 : w.heap.size + 1 ≤ (w1.alloc (.cells #[u] 20)).heap.size := by simp; omega
      rcases hu.face with rfl | ⟨ty, y, rfl⟩
      all_goals
        clear hu
        go_wp2_with (at_builtin; go_must (refine wpList_append_lies _ rfl (.tmp 52) (.tmp 59) 43 rfl (w.heap.size + 1) 20 i0 _ 1 16 Tryz.underlying43 hi0 hz0 hz1 hz2 rfl (by omega) (.slice A1 k c1) k xs rfl hown ⟨w1.heap.size, 0, none⟩ 1 1 [_] rfl rfl (news_at rfl) (one_of1 hou) (by omega) (by simp only [maxLen]; omega) (by omega) hz3 _ rfl ?_); intro g cap w2 hown2 hg2 hat hlt2)
        refine ⟨⟨k + 1, rfl, hlt, hS2.grown hg2 hz3 (fun j hj => (hown.lt j hj).1), ?_⟩, ?_⟩
        · rw [HT.out]; exact OwnV.snoc hxl hown hx hu2 hown2 hg2 hat
        · simp [intOf]; omega
    · obtain rfl : k = l.length := by omega
      rw [List.take_length] at hO ⊢
      have hbl : (builtL l).length = l.length := by rw [builtL_eq]; simp
      have hR := hO.read (by omega)
      rw [hbl] at hR
      clear hO
      go_wp2
      go_ret
      exact ⟨_, rfl, RdS.more (fun b hb => ⟨hb.1.elim (fun h => by omega) (fun h => by omega), hb.2⟩) _ _ hR, hb0⟩
set_option maxRecDepth 100000 in
set_option maxHeartbeats 1000000 in
theorem built_6 : BuiltC (.mk 6 b i f t bs r l d c v) := by
  rintro x w ⟨Ab, cb, Al, cl, Ad, cd, rfl, hk, hi, ht, hbl, ⟨hbn, hbs⟩, hr0, hr1, hc, hv, ⟨hll, hl⟩, ⟨hdl, hd⟩⟩
  obtain ⟨i0, hi0, hz0, hz1, hz2⟩ := info_parts Tryz.infoByte
  have hS : Below w.heap.size w ((w.alloc (.cells #[.int .i64 6, .bool b, .int .i64 i, .float .f64 f, .string t, .slice Ab bs.length cb, .int .u64 r, .slice Al l.length cl, .slice Ad d.length cd, .string c, .int .i64 v] 29)).alloc (.cells #[] 5)) := ((Below.refl _ _).alloc (Nat.le_refl _) _).alloc (by simp) _
  have hown := ownsRow_empty (w.alloc (.cells #[.int .i64 6, .bool b, .int .i64 i, .float .f64 f, .string t, .slice Ab bs.length cb, .int .u64 r, .slice Al l.length cl, .slice Ad d.length cd, .string c, .int .i64 v] 29)) w.heap.size 5 1 (by simp)
  simp at hown
  have hbs2 := hbs.keep (fun p hp => hS.cell hp)
  clear hl hd hbs
  cases Ab with
  | none =>
    obtain rfl := hbn rfl
    have hb0 : bs = [] := by
      rcases hbs2 with h | ⟨b, off, h, _⟩
      · exact h
      · cases h
    subst hb0
    unfold termOf
    go_enter Tryz.func12, Tryz.ntmps12
    go_wp2
    go_ret
    exact ⟨_, rfl, ⟨_, 0, rfl, by simp, (fun h => by cases h), .inl rfl⟩, hS⟩
  | some ad =>
    have hnews := ByteRow.news hbs2
    unfold termOf
    go_enter Tryz.func12, Tryz.ntmps12
    go_wp2_with (at_builtin; go_must (refine wpList_append_own _ rfl (.tmp 32) (.tmp 34) 23 rfl w.heap.size 5 i0 _ 1 1 Tryz.underlying23 hi0 hz0 hz1 hz2 rfl (by omega) (.slice (some ⟨w.heap.size + 1, 0, none⟩) 0 0) 0 [] rfl hown ad bs.length cb (bvals bs) rfl (by simp [bvals]) hnews (one_bvals bs) (by simp only [maxLen]; omega) (by omega) (by simp; omega) ?_); intro v' w2 hown2 hg2 hnil)
    rw [Nat.zero_add, List.nil_append] at hown2
    obtain ⟨A2, c2, rfl, hA2, hB2⟩ := bytes_of_row hown2
    go_wp2
    go_ret
    exact ⟨_, rfl, ⟨A2, c2, rfl, hbl, hA2, hB2⟩, hS.grown hg2 hS.size (fun j hj => by simp [Value.ownBlock] at hj; omega)⟩
end
end Go.Proofs.YtobpkelblpdajaaGreatDoor
/- Walks: mk.Alien, mk.Built. -/
namespace Go.Proofs.YtobpkelblpdajaaGreatDoor
open Go Go.RowKit
theorem alien_of {w w' : World} {t : TypeId} {x : Value} (h : alienT t = true) (hb : Below w.heap.size w w') : BuiltPost .alien w (.returned (.iface t x)) w' := ⟨_, rfl, ⟨t, x, rfl, h⟩, hb⟩
theorem run_mk (P : Program) (t : TypeId) (w : World) : (Instr.makeMap t none).run P w = .ok (.map (some w.heap.size)) (w.alloc (.map #[] 0)) := rfl
def mapW (w : World) : World := { w.alloc (.map #[] 0) with heap := (w.alloc (.map #[] 0)).heap.setIfInBounds w.heap.size (.map #[{ key := .string ⟨#[97]⟩, val := .int .i64 1, born := 0 }] (0 + 1)) }
theorem run_ins (w : World) : (Instr.mapUpdate 111 (.map (some w.heap.size)) (.string ⟨#[97]⟩) (.int .i64 1)).run Tryz.prog (w.alloc (.map #[] 0)) = .ok () (mapW w) :=
  run_mapUpdate_first _ _ 9 3 _ 0 _ _ Tryz.underlying111 Tryz.underlying9 (heap_alloc_new _ _)
theorem below_mapW (w : World) : Below w.heap.size w (mapW w) := by
  refine ⟨rfl, rfl, rfl, by unfold mapW; simp, fun k hk => ?_⟩
  unfold mapW
  simp only []
  rw [Array.getElem?_setIfInBounds_ne (by omega)]
  exact Below.heap_alloc w _ k hk
attribute [local go_sem] run_mk run_ins
set_option maxRecDepth 100000 in
set_option maxHeartbeats 1000000 in
theorem alien_any (n : Int) (w : World) : Calls Tryz.prog 10 #[.int .i64 n] w (BuiltPost .alien w) := by
  go_enter Tryz.func10, Tryz.ntmps10
  go_wp2
  all_goals first
    | (go_ret; exact alien_of rfl (Below.refl _ _))
    | (go_ret; exact alien_of rfl ((Below.refl _ _).alloc (Nat.le_refl _) _))
    | (go_ret; exact alien_of rfl (below_mapW _))
set_option maxRecDepth 100000 in
set_option maxHeartbeats 1000000 in
theorem built_other (k : Int) (b : Bool) (i : Int) (f : Nat) (t : ByteArray) (bs : List UInt8) (r : Int) (l : List Tm) (d : List (ByteArray × Tm)) (c : ByteArray) (v : Int) (hk : k ≠ 1 ∧ k ≠ 2 ∧ k ≠ 3 ∧ k ≠ 4 ∧ k ≠ 5 ∧ k ≠ 6 ∧ k ≠ 7 ∧ k ≠ 8 ∧ k ≠ 9 ∧ k ≠ 10 ∧ k ≠ 11) : BuiltC (.mk k b i f t bs r l d c v) := by
  rintro x w ⟨Ab, cb, Al, cl, Ad, cd, rfl, -, hi, ht, hbl, ⟨hbn, hbs⟩, hr0, hr1, hc, hv, ⟨hll, hl⟩, ⟨hdl, hd⟩⟩
  have HF : Hid (builtV (.mk k b i f t bs r l d c v) = .alien) := Lib.hid (by obtain ⟨h1, h2, h3, h4, h5, h6, h7, h8, h9, h10, h11⟩ := hk; simp [builtV, *])
  have kq := fun j (h : k ≠ j) => (beq_eq_false_iff_ne (a := k) (b := j)).2 h
  obtain ⟨h1, h2, h3, h4, h5, h6, h7, h8, h9, h10, h11⟩ := hk
  have g1 := kq _ h1
  have g2 := kq _ h2
  have g3 := kq _ h3
  have g4 := kq _ h4
  have g5 := kq _ h5
  have g6 := kq _ h6
  have g7 := kq _ h7
  have g8 := kq _ h8
  have g9 := kq _ h9
  have g10 := kq _ h10
  have g11 := kq _ h11
  clear h1 h2 h3 h4 h5 h6 h7 h8 h9 h10 h11 kq hbs hl hd
  have HA := Lib.hid (alien_any i)
  unfold termOf
  go_enter Tryz.func12, Tryz.ntmps12
  go_wp2_with fail
  refine (HA.out _).mono ?_
  rintro e w1 ⟨u, rfl, hu, hb1⟩
  go_wp2
  go_ret
  rw [HF.out]
  exact ⟨u, rfl, RdS.more (fun b hb => ⟨Nat.le_trans (by simp) hb.1, hb.2⟩) _ _ hu, ((Below.refl _ _).alloc (Nat.le_refl _) _).trans (hb1.mono (by simp))⟩
theorem built_any (x : Tm) : BuiltC x := by
  induction x using Tm.ind with
  | h k b i f t bs r l d c v ihl ihd =>
    by_cases h1 : k = 1
    · subst h1; exact built_1 b i f t bs r l d c v
    by_cases h2 : k = 2
    · subst h2; exact built_2 b i f t bs r l d c v
    by_cases h3 : k = 3
    · subst h3; exact built_3 b i f t bs r l d c v
    by_cases h4 : k = 4
    · subst h4; exact built_4 b i f t bs r l d c v
    by_cases h5 : k = 5
    · subst h5; exact built_5 b i f t bs r l d c v
    by_cases h6 : k = 6
    · subst h6; exact built_6 b i f t bs r l d c v
    by_cases h7 : k = 7
    · subst h7; exact built_7 b i f t bs r l d c v
    by_cases h8 : k = 8
    · subst h8; exact built_8 b i f t bs r l d c v ihl
    by_cases h9 : k = 9
    · subst h9; exact built_9 b i f t bs r l d c v ihd
    by_cases h10 : k = 10
    · subst h10; exact built_10 b i f t bs r l d c v ihd
    by_cases h11 : k = 11
    · subst h11; exact built_11 b i f t bs r l d c v
    exact built_other k b i f t bs r l d c v ⟨h1, h2, h3, h4, h5, h6, h7, h8, h9, h10, h11⟩
end Go.Proofs.YtobpkelblpdajaaGreatDoor
/- Walks: the value of a term (value.dict). -/
namespace Go.Proofs.YtobpkelblpdajaaGreatDoor
open Go Go.RowKit
end Go.Proofs.YtobpkelblpdajaaGreatDoor
