/- Walks: the document's text of a way. -/
import Derived.Test.YtcgefpeachgchaaDoorB12
namespace Go.Proofs.YtcgefpeachgchaaDoor
open Go Go.RowKit
theorem ref_index_any (s : ByteArray) (k : Nat) (bh : Bool) (w : World) (hs : s.size ≤ 140737488351232) (hk : k < s.size) (hc : ((s[k].toNat : Int) == 91) = true) :
    Calls Tryd.prog 14 #[.string s, .int .i64 k] w (RefPost (stepS s.data.toList k bh) w) := by
  have hle := span_le digB s.data.toList (k + 1)
  rw [len_list] at hle
  generalize hn : spanLen digB s.data.toList (k + 1) = n at hle
  by_cases h1 : k + 1 + n = s.size
  · exact ref_idx4 s k bh w hs hk n hn hc h1
  · by_cases h2 : n = 0 ∨ ((s.data.toList.getD (k + 1) 0).toNat = 48 ∧ n ≠ 1) ∨ (s.data.toList.getD (k + 1 + n) 0).toNat ≠ 93
    · exact ref_idx3 s k bh w hs hk n hn hc h1 h2
    · exact ref_idxR s k bh w hs hk n hn hc (by omega) (by omega) (fun h => h2 (.inr (.inl h))) (by omega)
theorem x_cells {w w1 : World} {a b c : Value} {T : TypeId} (hb : Below (w.alloc (.cells #[a, b, c] T)).heap.size (w.alloc (.cells #[a, b, c] T)) w1) : NC w1 w.heap.size a b c := by
  refine NC.of (T := T) ?_
  rw [hb.block _ (by simp)]
  exact heap_alloc_new _ _
theorem ref_b1 {w w1 : World} {o : Obj} (hb : Below (w.alloc o).heap.size (w.alloc o) w1) : Below w.heap.size w w1 :=
  ((Below.refl w.heap.size w).alloc (Nat.le_refl _) _).trans (hb.mono (by simp))
theorem x_set {w w1 : World} {a b c : Value} (hb : Below w.heap.size w w1) : Below w.heap.size w (((w1.setCell ⟨w.heap.size, 0, none⟩ a).setCell ⟨w.heap.size, 1, none⟩ b).setCell ⟨w.heap.size, 2, none⟩ c) := ref_set hb
section
variable (s : ByteArray) (w : World) (hs : s.size ≤ 140737488351232)
include hs
set_option maxRecDepth 100000 in
set_option maxHeartbeats 2000000 in
theorem refParse_any : Calls Tryd.prog 11 #[.string s] w (ParsePost (parseS (s.size + 1) s.data.toList 0 0 false) w) := by
  obtain ⟨i0, hi, hz0, hz1, hz2⟩ := info_parts Tryd.info45
  generalize hP : parseS (s.size + 1) s.data.toList 0 0 false = pr
  go_enter Tryd.func11, Tryd.ntmps11
  go_wp2
  go_loopw [5, 6] (fun v i wr => ∃ (k n f : Nat) (fb : Bool), i = .int .i64 k ∧ k ≤ s.size ∧ n ≤ 64 ∧ s.size < k + f ∧ (0 < n ↔ 0 < k) ∧ Hid (parseS f s.data.toList k n fb = pr) ∧ Below w.heap.size w wr ∧ WayOwn w.heap.size wr v n fb) (fun _ i _ => s.size - (intOf i).toNat)
  case atStart => exact ⟨0, 0, s.size + 1, false, rfl, by omega, by omega, by omega, by omega, hP, Below.refl _ _, WayOwn.nil _ _⟩
  case round =>
    clear hP
    obtain ⟨k, n, f, fb, rfl, hk, hn, hf, hnk, HP, hb, hw⟩ := hrel
    obtain ⟨A, c, rfl⟩ := hw.form
    by_cases hlt : k < s.size
    · obtain ⟨f, rfl⟩ : ∃ g, f = g + 1 := ⟨f - 1, by omega⟩
      by_cases g1 : 0 < n ∧ s[k].toNat ≠ 46 ∧ s[k].toNat ≠ 91
      · have HR := Lib.hid (show pr = ⟨3, 0, false⟩ by rw [← HP.out, parseS, if_pos (by rw [len_list]; exact hlt), getD_at s k hlt, if_pos g1])
        obtain ⟨g1, g2, g3⟩ := g1
        have q1 : ((s[k].toNat : Int) != 46) = true := by rw [bne_iff_ne]; omega
        have q2 : ((s[k].toNat : Int) != 91) = true := by rw [bne_iff_ne]; omega
        have hk0 : 0 < k := hnk.1 g1
        clear g2 g3 hnk
        go_wp2
        go_ret3
        exact post_err HR.out hb
      · have hcases : (n = 0 ∧ k = 0 ∧ decide (0 < n) = false) ∨ (decide (0 < n) = true ∧ 0 < n ∧ 0 < k ∧ ((s[k].toNat : Int) != 46) = false ∧ ((s[k].toNat : Int) != 91) = true ∧ ((s[k].toNat : Int) == 91) = false) ∨ (decide (0 < n) = true ∧ 0 < n ∧ 0 < k ∧ ((s[k].toNat : Int) != 91) = false ∧ ((s[k].toNat : Int) == 91) = true) := by
          rcases Nat.eq_zero_or_pos n with h | h
          · exact .inl ⟨h, by omega, by simp [h]⟩
          · by_cases e : s[k].toNat = 46
            · exact .inr (.inl ⟨by simpa using h, h, hnk.1 h, by rw [e]; rfl, by rw [e]; rfl, by rw [e]; rfl⟩)
            · refine .inr (.inr ⟨by simpa using h, h, hnk.1 h, ?_⟩)
              by_cases e2 : s[k].toNat = 91
              · rw [e2]; exact ⟨rfl, rfl⟩
              · exact absurd ⟨h, e, e2⟩ g1
        by_cases g2 : 64 ≤ n
        · have HR := Lib.hid (show pr = ⟨2, 0, false⟩ by rw [← HP.out, parseS, if_pos (by rw [len_list]; exact hlt), getD_at s k hlt, if_neg g1, if_pos g2])
          have hn0 : 0 < n := by omega
          have hn64 : ((n : Int) == 64) = true := by rw [show n = 64 by omega]; rfl
          clear g1
          rcases hcases with ⟨h, _⟩ | ⟨_, h1, h2, q1, q2, _⟩ | ⟨_, h1, h2, q1, _⟩
          · omega
          all_goals
            clear hnk g2
            go_wp2
            go_ret3
            exact post_err HR.out hb
        · have HPS := fun bh (hbh : decide (0 < n) = bh) => Lib.hid (parseS_step (f := f) (l := s.data.toList) (fb := fb) (by rw [len_list]; exact hlt) (getD_at s k hlt) g1 g2 hbh)
          have HSB := fun bh => Lib.hid (stepS_next (l := s.data.toList) (k := k) (b := bh) (by rw [len_list]; exact hlt))
          have hn64 : ((n : Int) == 64) = false := by rw [beq_eq_false_iff_ne]; omega
          rcases hcases with ⟨h0, hk0, hbh⟩ | ⟨hbh, h0, hk0, q1, q2, q3⟩ | ⟨hbh, h0, hk0, q1, q3⟩
          · subst h0
            subst hk0
            have HPs := HPS _ hbh
            have HSb := HSB false
            clear HPS HSB hbh g1 g2 hnk hn64
            by_cases hc : s[0].toNat = 91
            · have q3 : ((s[0].toNat : Int) == 91) = true := by rw [hc]; rfl
              have HSt := Lib.hid (fun (W : World) (_ : Below wr.heap.size wr W) => ref_index_any s 0 false W hs hlt q3)
              clear hc
              go_wp2_with fail
              refine (HSt.out _ ?hb).mono ?_
              case hb => exact (Below.refl _ _).alloc (Nat.le_refl _) _
              rintro e w1 ⟨nm, ix, nx, rfl, hnx, hb1⟩
              clear HSt
              generalize stepS s.data.toList 0 false = r at *
              obtain ⟨er, nxt, ia⟩ := r
              simp only [] at hnx
              obtain ⟨a0, a1, a2, b0, b1, b2⟩ := x_cells hb1
              have hb3 := ref_b1 hb1
              have hz : wr.heap.size + 1 ≤ w1.heap.size := by have := hb1.size; simpa using this
              clear hb1
              have hb4 := fun a b c => x_set (a := a) (b := b) (c := c) hb3
              by_cases he : er = 0
              · subst he
                obtain ⟨hn1, hn2⟩ := HSb.out rfl
                have hn3 := hnx rfl
                simp only [] at hn1 hn2 hn3
                rw [len_list] at hn2
                subst hn3
                have HPf := Lib.hid (HPs.out.symm.trans HP.out)
                obtain ⟨xs, hown, hxs⟩ := hw.below (hb4 (.string nm) (.bool ia) (.int .i64 ix)) hb.size
                have hb2 := hb.trans ((hb4 (.string nm) (.bool ia) (.int .i64 ix)).mono hb.size)
                clear HPs HP hnx HSb hw hb hb3 hb4
                go_wp2_with (at_builtin; refine wpList_append_own _ rfl (.tmp 66) (.tmp 68) 41 rfl w.heap.size 45 i0 _ 3 32 Tryd.underlying41 hi hz0 hz1 hz2 rfl (by omega) (.slice A 0 c) 0 xs rfl (hown.alloc _) ⟨w1.heap.size, 0, none⟩ 1 1 [.string nm, .bool ia, .int .i64 ix] rfl rfl (new3 (by simp)) (one3 rfl rfl rfl) (by simp only [maxLen]; omega) (by omega) (by simp; have := hb2.size; simp at this; omega) ?_; intro v' w2 hown2 hg2 hnil)
                refine ⟨⟨nxt, 0 + 1, f, if 0 = 0 then ia else fb, rfl, hn2, by omega, by omega, by omega, ?_, ?_, way_snoc hown hxs hown2⟩, by simp [intOf]; omega⟩
                · exact HPf.out
                · exact (hb2.alloc hb2.size _).grown hg2 (by have := hb2.size; simp at this ⊢; omega) (fun j hj => (hown.lt j hj).1)
              · have HR := Lib.hid (show pr = ⟨er, 0, false⟩ by have := HP.out; rw [HPs.out, if_neg he] at this; exact this.symm)
                have he' : ((er : Int) != 0) = true := by rw [bne_iff_ne]; omega
                clear HPs HP hnx HSb
                go_wp2
                go_ret3
                exact post_err HR.out (hb.trans ((hb4 _ _ _).mono hb.size))
            · have q3 : ((s[0].toNat : Int) == 91) = false := by rw [beq_eq_false_iff_ne]; omega
              have HSt := Lib.hid (fun (W : World) (_ : Below wr.heap.size wr W) => ref_name s 0 0 false W hs hlt rfl _ rfl q3)
              clear hc
              go_wp2_with fail
              refine (HSt.out _ ?hb).mono ?_
              case hb => exact (Below.refl _ _).alloc (Nat.le_refl _) _
              rintro e w1 ⟨nm, ix, nx, rfl, hnx, hb1⟩
              clear HSt
              generalize stepS s.data.toList 0 false = r at *
              obtain ⟨er, nxt, ia⟩ := r
              simp only [] at hnx
              obtain ⟨a0, a1, a2, b0, b1, b2⟩ := x_cells hb1
              have hb3 := ref_b1 hb1
              have hz : wr.heap.size + 1 ≤ w1.heap.size := by have := hb1.size; simpa using this
              clear hb1
              have hb4 := fun a b c => x_set (a := a) (b := b) (c := c) hb3
              by_cases he : er = 0
              · subst he
                obtain ⟨hn1, hn2⟩ := HSb.out rfl
                have hn3 := hnx rfl
                simp only [] at hn1 hn2 hn3
                rw [len_list] at hn2
                subst hn3
                have HPf := Lib.hid (HPs.out.symm.trans HP.out)
                obtain ⟨xs, hown, hxs⟩ := hw.below (hb4 (.string nm) (.bool ia) (.int .i64 ix)) hb.size
                have hb2 := hb.trans ((hb4 (.string nm) (.bool ia) (.int .i64 ix)).mono hb.size)
                clear HPs HP hnx HSb hw hb hb3 hb4
                go_wp2_with (at_builtin; refine wpList_append_own _ rfl (.tmp 66) (.tmp 68) 41 rfl w.heap.size 45 i0 _ 3 32 Tryd.underlying41 hi hz0 hz1 hz2 rfl (by omega) (.slice A 0 c) 0 xs rfl (hown.alloc _) ⟨w1.heap.size, 0, none⟩ 1 1 [.string nm, .bool ia, .int .i64 ix] rfl rfl (new3 (by simp)) (one3 rfl rfl rfl) (by simp only [maxLen]; omega) (by omega) (by simp; have := hb2.size; simp at this; omega) ?_; intro v' w2 hown2 hg2 hnil)
                refine ⟨⟨nxt, 0 + 1, f, if 0 = 0 then ia else fb, rfl, hn2, by omega, by omega, by omega, ?_, ?_, way_snoc hown hxs hown2⟩, by simp [intOf]; omega⟩
                · exact HPf.out
                · exact (hb2.alloc hb2.size _).grown hg2 (by have := hb2.size; simp at this ⊢; omega) (fun j hj => (hown.lt j hj).1)
              · have HR := Lib.hid (show pr = ⟨er, 0, false⟩ by have := HP.out; rw [HPs.out, if_neg he] at this; exact this.symm)
                have he' : ((er : Int) != 0) = true := by rw [bne_iff_ne]; omega
                clear HPs HP hnx HSb
                go_wp2
                go_ret3
                exact post_err HR.out (hb.trans ((hb4 _ _ _).mono hb.size))
          · have HPs := HPS _ hbh
            have HSb := HSB true
            have hn64' : n < 64 := by omega
            have HSt := Lib.hid (fun (W : World) (_ : Below wr.heap.size wr W) => ref_name s k (k + 1) true W hs hlt rfl _ rfl q3)
            have hkz : ((k : Int) == 0) = false := by rw [beq_eq_false_iff_ne]; omega
            clear HPS HSB hbh g1 g2 hnk
            go_wp2_with fail
            refine (HSt.out _ ?hb).mono ?_
            case hb => exact (Below.refl _ _).alloc (Nat.le_refl _) _
            rintro e w1 ⟨nm, ix, nx, rfl, hnx, hb1⟩
            clear HSt
            generalize stepS s.data.toList k true = r at *
            obtain ⟨er, nxt, ia⟩ := r
            simp only [] at hnx
            obtain ⟨a0, a1, a2, b0, b1, b2⟩ := x_cells hb1
            have hb3 := ref_b1 hb1
            have hz : wr.heap.size + 1 ≤ w1.heap.size := by have := hb1.size; simpa using this
            clear hb1
            have hb4 := fun a b c => x_set (a := a) (b := b) (c := c) hb3
            by_cases he : er = 0
            · subst he
              obtain ⟨hn1, hn2⟩ := HSb.out rfl
              have hn3 := hnx rfl
              simp only [] at hn1 hn2 hn3
              rw [len_list] at hn2
              subst hn3
              have HPf := Lib.hid (HPs.out.symm.trans HP.out)
              obtain ⟨xs, hown, hxs⟩ := hw.below (hb4 (.string nm) (.bool ia) (.int .i64 ix)) hb.size
              have hb2 := hb.trans ((hb4 (.string nm) (.bool ia) (.int .i64 ix)).mono hb.size)
              clear HPs HP hnx HSb hw hb hb3 hb4
              go_wp2_with (at_builtin; refine wpList_append_own _ rfl (.tmp 66) (.tmp 68) 41 rfl w.heap.size 45 i0 _ 3 32 Tryd.underlying41 hi hz0 hz1 hz2 rfl (by omega) (.slice A n c) n xs rfl (hown.alloc _) ⟨w1.heap.size, 0, none⟩ 1 1 [.string nm, .bool ia, .int .i64 ix] rfl rfl (new3 (by simp)) (one3 rfl rfl rfl) (by simp only [maxLen]; omega) (by omega) (by simp; have := hb2.size; simp at this; omega) ?_; intro v' w2 hown2 hg2 hnil)
              refine ⟨⟨nxt, n + 1, f, if n = 0 then ia else fb, rfl, hn2, by omega, by omega, by omega, ?_, ?_, way_snoc hown hxs hown2⟩, by simp [intOf]; omega⟩
              · exact HPf.out
              · exact (hb2.alloc hb2.size _).grown hg2 (by have := hb2.size; simp at this ⊢; omega) (fun j hj => (hown.lt j hj).1)
            · have HR := Lib.hid (show pr = ⟨er, 0, false⟩ by have := HP.out; rw [HPs.out, if_neg he] at this; exact this.symm)
              have he' : ((er : Int) != 0) = true := by rw [bne_iff_ne]; omega
              clear HPs HP hnx HSb
              go_wp2
              go_ret3
              exact post_err HR.out (hb.trans ((hb4 _ _ _).mono hb.size))
          · have HPs := HPS _ hbh
            have HSb := HSB true
            have hn64' : n < 64 := by omega
            have HSt := Lib.hid (fun (W : World) (_ : Below wr.heap.size wr W) => ref_index_any s k true W hs hlt q3)
            clear HPS HSB hbh g1 g2 hnk
            go_wp2_with fail
            refine (HSt.out _ ?hb).mono ?_
            case hb => exact (Below.refl _ _).alloc (Nat.le_refl _) _
            rintro e w1 ⟨nm, ix, nx, rfl, hnx, hb1⟩
            clear HSt
            generalize stepS s.data.toList k true = r at *
            obtain ⟨er, nxt, ia⟩ := r
            simp only [] at hnx
            obtain ⟨a0, a1, a2, b0, b1, b2⟩ := x_cells hb1
            have hb3 := ref_b1 hb1
            have hz : wr.heap.size + 1 ≤ w1.heap.size := by have := hb1.size; simpa using this
            clear hb1
            have hb4 := fun a b c => x_set (a := a) (b := b) (c := c) hb3
            by_cases he : er = 0
            · subst he
              obtain ⟨hn1, hn2⟩ := HSb.out rfl
              have hn3 := hnx rfl
              simp only [] at hn1 hn2 hn3
              rw [len_list] at hn2
              subst hn3
              have HPf := Lib.hid (HPs.out.symm.trans HP.out)
              obtain ⟨xs, hown, hxs⟩ := hw.below (hb4 (.string nm) (.bool ia) (.int .i64 ix)) hb.size
              have hb2 := hb.trans ((hb4 (.string nm) (.bool ia) (.int .i64 ix)).mono hb.size)
              clear HPs HP hnx HSb hw hb hb3 hb4
              go_wp2_with (at_builtin; refine wpList_append_own _ rfl (.tmp 66) (.tmp 68) 41 rfl w.heap.size 45 i0 _ 3 32 Tryd.underlying41 hi hz0 hz1 hz2 rfl (by omega) (.slice A n c) n xs rfl (hown.alloc _) ⟨w1.heap.size, 0, none⟩ 1 1 [.string nm, .bool ia, .int .i64 ix] rfl rfl (new3 (by simp)) (one3 rfl rfl rfl) (by simp only [maxLen]; omega) (by omega) (by simp; have := hb2.size; simp at this; omega) ?_; intro v' w2 hown2 hg2 hnil)
              refine ⟨⟨nxt, n + 1, f, if n = 0 then ia else fb, rfl, hn2, by omega, by omega, by omega, ?_, ?_, way_snoc hown hxs hown2⟩, by simp [intOf]; omega⟩
              · exact HPf.out
              · exact (hb2.alloc hb2.size _).grown hg2 (by have := hb2.size; simp at this ⊢; omega) (fun j hj => (hown.lt j hj).1)
            · have HR := Lib.hid (show pr = ⟨er, 0, false⟩ by have := HP.out; rw [HPs.out, if_neg he] at this; exact this.symm)
              have he' : ((er : Int) != 0) = true := by rw [bne_iff_ne]; omega
              clear HPs HP hnx HSb
              go_wp2
              go_ret3
              exact post_err HR.out (hb.trans ((hb4 _ _ _).mono hb.size))
    · obtain rfl : k = s.size := by omega
      have HR := Lib.hid (show pr = ⟨0, n, fb⟩ by
        obtain ⟨f, rfl⟩ : ∃ g, f = g + 1 := ⟨f - 1, by omega⟩
        rw [← HP.out, parseS, if_neg (by rw [len_list]; omega)])
      clear hnk
      go_wp2
      go_ret3
      exact post_ok HR.out hb hw
end
end Go.Proofs.YtcgefpeachgchaaDoor
