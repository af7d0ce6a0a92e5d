/- Walks: value.order of any two, value.Same. -/
import Derived.Test.YtobpkelblpdajaaGreatDoorNL25
set_option linter.unusedVariables false
set_option linter.unusedSimpArgs false
set_option linter.unusedSectionVars false
namespace Go.Proofs.YtobpkelblpdajaaGreatDoor
open Go Go.RowKit
attribute [local go_sem] ta_no_bool ta_yes_bool ta_nil_bool ta_no_int64 ta_yes_int64 ta_nil_int64 ta_no_flt ta_yes_flt ta_nil_flt ta_no_str ta_yes_str ta_nil_str ta_no_byt ta_yes_byt ta_nil_byt ta_no_ref ta_yes_ref ta_nil_ref ta_no_lst ta_yes_lst ta_nil_lst ta_no_dct ta_yes_dct ta_nil_dct ta_no_rec ta_yes_rec ta_nil_rec ta1_bool ta1_int64 ta1_flt ta1_str ta1_byt ta1_ref ta1_lst ta1_dct ta1_rec
set_option maxRecDepth 100000 in
set_option maxHeartbeats 1000000 in
theorem order_record (cls cls' : ByteArray) (v v' : Int) (a b : List (ByteArray × V)) (ih : ∀ p ∈ a, OrderC p.2) (hfa : fineD a) (hfb : fineD b) (va vb : Value) (w : World) (ha : Rd w w.heap.size (.record cls v a) va) (hb : Rd w w.heap.size (.record cls' v' b) vb) : Calls Tryz.prog 50 #[va, vb] w (OrdPost (ordV (.record cls v a) (.record cls' v' b)) w) := by
  have K1 := Lib.hid (kind_any _ _ w.heap.size w ha)
  have K2 := Lib.hid (kind_any _ _ w.heap.size w hb)
  have KC : Hid (Calls Tryz.prog 87 #[.int .i64 (kindV (.record cls v a)), .int .i64 (kindV (.record cls' v' b))] w (NumPost 0 w)) := Lib.hid (cmp_int _ _ w)
  have HU : Hid (ordV (.record cls v a) (.record cls' v' b) = thenI (ordS cls cls') (thenI (ordI v v') (ordD a b))) := Lib.hid (by rw [ordV])
  obtain ⟨b1, rfl, hB1, -, q0, q1, -, -, A1, c1, q2, l1, r1⟩ := ha
  obtain ⟨b2, rfl, hB2, -, p0, p1, -, -, A2, c2, p2, l2, r2⟩ := hb
  have HS := Lib.hid (fun (W : World) => cmp_string cls cls' W)
  have HI := Lib.hid (fun (W : World) => cmp_int v v' W)
  have HD := Lib.hid (fun (W : World) (hW : Below w.heap.size w W) => compare_dict a b ih A1 A2 c1 c2 W hfa hfb l1 l2 (DictAt.more (DictAt.below r1 hW) hW.size) (DictAt.more (DictAt.below r2 hW) hW.size))
  clear ih hfa hfb r1 r2
  generalize ordV (.record cls v a) (.record cls' v' b) = r at *
  generalize ordD a b = nd at *
  generalize ordS cls cls' = ns at *
  generalize ordI v v' = ni at *
  by_cases z1 : ns = 0
  · replace HU := Lib.hid (HU.out.trans (thenI_zero z1))
    have e1 : (ns != 0) = false := by simp [z1]
    by_cases z2 : ni = 0
    · replace HU := Lib.hid (HU.out.trans (thenI_zero z2))
      have e2 : (ni != 0) = false := by simp [z2]
      clear z1 z2
      go_enter Tryz.func50, Tryz.ntmps50
      go_wp2_with fail
      refine K1.out.mono ?_
      rintro e w1 ⟨rfl, rfl⟩
      go_wp2_with fail
      refine K2.out.mono ?_
      rintro e w1 ⟨rfl, rfl⟩
      go_wp2_with fail
      refine KC.out.mono ?_
      rintro e w1 ⟨rfl, rfl⟩
      go_wp2
      refine wp_region_below_lit (by kernel_rfl) (by kernel_rfl) ?_
      repeat (refine WpC.step (fun K hK => ?_); go_simp; first | (refine hK _ ?_; clear hK K) | (apply Exists.intro; refine ⟨fun W hW => ?_, hK _ ?_⟩; (first | (intros; rfl) | (refine ⟨rfl, ?_⟩; rfl) | ((obtain ⟨hc, hf⟩ := bcellB hW; go_simp; rfl)) | ((first | (go_at_call 93; refine (HS.out _).mono ?_; rintro e w1 ⟨rfl, rfl⟩; exact ⟨rfl, hW⟩)))); clear hK K))
      refine WpC.nil ?_
      intro wq hwq
      have HW1 := Lib.hid hwq
      have hz1 := hwq.size
      have q1' := (hwq.cell (p := ⟨b1, 1, none⟩) hB1).trans q1
      have p1' := (hwq.cell (p := ⟨b2, 1, none⟩) hB2).trans p1
      clear q1 p1
      have hB1' : b1 < wq.heap.size := by omega
      have hB2' : b2 < wq.heap.size := by omega
      go_wp2
      refine wp_region_below_lit (by kernel_rfl) (by kernel_rfl) ?_
      repeat (refine WpC.step (fun K hK => ?_); go_simp; first | (refine hK _ ?_; clear hK K) | (apply Exists.intro; refine ⟨fun W hW => ?_, hK _ ?_⟩; (first | (intros; rfl) | (refine ⟨rfl, ?_⟩; rfl) | ((obtain ⟨hc, hf⟩ := bcellB hW; go_simp; rfl)) | ((first | (go_at_call 87; refine (HI.out _).mono ?_; rintro e w1 ⟨rfl, rfl⟩; exact ⟨rfl, hW⟩)))); clear hK K))
      refine WpC.nil ?_
      intro wq hwq
      replace HW1 := Lib.hid (HW1.out.trans (hwq.mono hz1))
      replace hz1 := Nat.le_trans hz1 hwq.size
      have q2' := (HW1.out.cell (p := ⟨b1, 2, none⟩) hB1).trans q2
      have p2' := (HW1.out.cell (p := ⟨b2, 2, none⟩) hB2).trans p2
      clear q2 p2
      have hB1'' : b1 < wq.heap.size := by omega
      have hB2'' : b2 < wq.heap.size := by omega
      go_wp2
      refine wp_region_below_lit (by kernel_rfl) (by kernel_rfl) ?_
      repeat (refine WpC.step (fun K hK => ?_); go_simp; first | (refine hK _ ?_; clear hK K) | (apply Exists.intro; refine ⟨fun W hW => ?_, hK _ ?_⟩; (first | (intros; rfl) | (refine ⟨rfl, ?_⟩; rfl) | ((obtain ⟨hc, hf⟩ := bcellB hW; go_simp; rfl)) | ((first | (go_at_call 97; refine (HD.out _ (HW1.out.trans (hW.mono hz1))).mono ?_; rintro e w1 ⟨rfl, hb1⟩; exact ⟨rfl, below_then hW (Nat.le_refl _) hb1⟩)))); clear hK K))
      refine WpC.nil ?_
      intro wq hwq
      replace HW1 := Lib.hid (HW1.out.trans (hwq.mono hz1))
      go_wp2
      go_ret
      exact ⟨ret_num HU.out.symm, HW1.out⟩
    · replace HU := Lib.hid (HU.out.trans (thenI_some z2))
      have e2 : (ni != 0) = true := by simp [z2]
      clear z1 z2
      go_enter Tryz.func50, Tryz.ntmps50
      go_wp2_with fail
      refine K1.out.mono ?_
      rintro e w1 ⟨rfl, rfl⟩
      go_wp2_with fail
      refine K2.out.mono ?_
      rintro e w1 ⟨rfl, rfl⟩
      go_wp2_with fail
      refine KC.out.mono ?_
      rintro e w1 ⟨rfl, rfl⟩
      go_wp2
      refine wp_region_below_lit (by kernel_rfl) (by kernel_rfl) ?_
      repeat (refine WpC.step (fun K hK => ?_); go_simp; first | (refine hK _ ?_; clear hK K) | (apply Exists.intro; refine ⟨fun W hW => ?_, hK _ ?_⟩; (first | (intros; rfl) | (refine ⟨rfl, ?_⟩; rfl) | ((obtain ⟨hc, hf⟩ := bcellB hW; go_simp; rfl)) | ((first | (go_at_call 93; refine (HS.out _).mono ?_; rintro e w1 ⟨rfl, rfl⟩; exact ⟨rfl, hW⟩)))); clear hK K))
      refine WpC.nil ?_
      intro wq hwq
      have HW1 := Lib.hid hwq
      have hz1 := hwq.size
      have q1' := (hwq.cell (p := ⟨b1, 1, none⟩) hB1).trans q1
      have p1' := (hwq.cell (p := ⟨b2, 1, none⟩) hB2).trans p1
      clear q1 p1
      have hB1' : b1 < wq.heap.size := by omega
      have hB2' : b2 < wq.heap.size := by omega
      go_wp2
      refine wp_region_below_lit (by kernel_rfl) (by kernel_rfl) ?_
      repeat (refine WpC.step (fun K hK => ?_); go_simp; first | (refine hK _ ?_; clear hK K) | (apply Exists.intro; refine ⟨fun W hW => ?_, hK _ ?_⟩; (first | (intros; rfl) | (refine ⟨rfl, ?_⟩; rfl) | ((obtain ⟨hc, hf⟩ := bcellB hW; go_simp; rfl)) | ((first | (go_at_call 87; refine (HI.out _).mono ?_; rintro e w1 ⟨rfl, rfl⟩; exact ⟨rfl, hW⟩)))); clear hK K))
      refine WpC.nil ?_
      intro wq hwq
      replace HW1 := Lib.hid (HW1.out.trans (hwq.mono hz1))
      replace hz1 := Nat.le_trans hz1 hwq.size
      go_wp2
      go_ret
      exact ⟨ret_num HU.out.symm, HW1.out⟩
  · replace HU := Lib.hid (HU.out.trans (thenI_some z1))
    have e1 : (ns != 0) = true := by simp [z1]
    clear z1
    go_enter Tryz.func50, Tryz.ntmps50
    go_wp2_with fail
    refine K1.out.mono ?_
    rintro e w1 ⟨rfl, rfl⟩
    go_wp2_with fail
    refine K2.out.mono ?_
    rintro e w1 ⟨rfl, rfl⟩
    go_wp2_with fail
    refine KC.out.mono ?_
    rintro e w1 ⟨rfl, rfl⟩
    go_wp2
    refine wp_region_below_lit (by kernel_rfl) (by kernel_rfl) ?_
    repeat (refine WpC.step (fun K hK => ?_); go_simp; first | (refine hK _ ?_; clear hK K) | (apply Exists.intro; refine ⟨fun W hW => ?_, hK _ ?_⟩; (first | (intros; rfl) | (refine ⟨rfl, ?_⟩; rfl) | ((obtain ⟨hc, hf⟩ := bcellB hW; go_simp; rfl)) | ((first | (go_at_call 93; refine (HS.out _).mono ?_; rintro e w1 ⟨rfl, rfl⟩; exact ⟨rfl, hW⟩)))); clear hK K))
    refine WpC.nil ?_
    intro wq hwq
    have HW1 := Lib.hid hwq
    have hz1 := hwq.size
    go_wp2
    go_ret
    exact ⟨ret_num HU.out.symm, HW1.out⟩
theorem order_any (a : V) : OrderC a := by
  induction a using V.ind with
  | h0 =>
    intro b va vb w hfa hfb ha hb
    by_cases hk : kindV .nil = kindV b
    · cases b <;> first | (exact order_nil va vb w ha hb) | (exact absurd hk (by simp [kindV]))
    · exact order_kinds _ _ va vb w hk ha hb
  | h1 a =>
    intro b va vb w hfa hfb ha hb
    by_cases hk : kindV (.bool a) = kindV b
    · cases b <;> first | (exact order_bool a _ va vb w ha hb) | (exact absurd hk (by simp [kindV]))
    · exact order_kinds _ _ va vb w hk ha hb
  | h2 a =>
    intro b va vb w hfa hfb ha hb
    by_cases hk : kindV (.int a) = kindV b
    · cases b <;> first | (exact order_int a _ va vb w ha hb) | (exact absurd hk (by simp [kindV]))
    · exact order_kinds _ _ va vb w hk ha hb
  | h3 a =>
    intro b va vb w hfa hfb ha hb
    by_cases hk : kindV (.flt a) = kindV b
    · cases b <;> first | (exact order_flt a _ va vb w ha hb) | (exact absurd hk (by simp [kindV]))
    · exact order_kinds _ _ va vb w hk ha hb
  | h4 a =>
    intro b va vb w hfa hfb ha hb
    by_cases hk : kindV (.text a) = kindV b
    · cases b <;> first | (exact order_text a _ va vb w ha hb) | (exact absurd hk (by simp [kindV]))
    · exact order_kinds _ _ va vb w hk ha hb
  | h5 a =>
    intro b va vb w hfa hfb ha hb
    by_cases hk : kindV (.bytes a) = kindV b
    · cases b <;> first | (exact order_bytes a _ va vb w ha hb) | (exact absurd hk (by simp [kindV]))
    · exact order_kinds _ _ va vb w hk ha hb
  | h6 a =>
    intro b va vb w hfa hfb ha hb
    by_cases hk : kindV (.ref a) = kindV b
    · cases b <;> first | (exact order_ref a _ va vb w ha hb) | (exact absurd hk (by simp [kindV]))
    · exact order_kinds _ _ va vb w hk ha hb
  | h7 a ih =>
    intro b va vb w hfa hfb ha hb
    by_cases hk : kindV (.list a) = kindV b
    · cases b <;> first | (exact order_list a _ ih hfa hfb va vb w ha hb) | (exact absurd hk (by simp [kindV]))
    · exact order_kinds _ _ va vb w hk ha hb
  | h8 a ih =>
    intro b va vb w hfa hfb ha hb
    by_cases hk : kindV (.dict a) = kindV b
    · cases b <;> first | (exact order_dict a _ ih hfa hfb va vb w ha hb) | (exact absurd hk (by simp [kindV]))
    · exact order_kinds _ _ va vb w hk ha hb
  | h9 c v a ih =>
    intro b va vb w hfa hfb ha hb
    by_cases hk : kindV (.record c v a) = kindV b
    · cases b <;> first | (exact order_record c _ v _ a _ ih hfa hfb va vb w ha hb) | (exact absurd hk (by simp [kindV]))
    · exact order_kinds _ _ va vb w hk ha hb
  | h10 => intro b va vb w hfa; exact absurd hfa (by simp [fineV])
  | h11 => intro b va vb w hfa; exact absurd hfa (by simp [fineV])
end Go.Proofs.YtobpkelblpdajaaGreatDoor
