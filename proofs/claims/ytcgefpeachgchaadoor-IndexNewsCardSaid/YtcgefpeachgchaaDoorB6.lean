/- Walks: the text of a way. -/
import Derived.Test.YtcgefpeachgchaaDoorB5
import Derived.Deep.AppendLies
import Derived.Deep.DeepMust
namespace Go.Proofs.YtcgefpeachgchaaDoor
open Go Go.RowKit
def WayOwn (B : Nat) (W : World) (v : Value) (n : Nat) (fb : Bool) : Prop := ∃ xs, W.ownsRow B 45 3 v n xs ∧ (0 < n → xs[1]? = some (.bool fb))
theorem WayOwn.form {B : Nat} {W : World} {v : Value} {n : Nat} {fb : Bool} (h : WayOwn B W v n fb) : ∃ A c, v = .slice A n c := by
  obtain ⟨xs, h, _⟩ := h
  rcases h.2 with ⟨rfl, rfl⟩ | ⟨g, cap, cur, rfl, _⟩
  · exact ⟨none, 0, rfl⟩
  · exact ⟨_, _, rfl⟩
theorem WayOwn.nil (B : Nat) (W : World) : WayOwn B W (.slice none 0 0) 0 false := ⟨[], ⟨rfl, .inl ⟨rfl, rfl⟩⟩, fun h => absurd h (by omega)⟩
theorem WayOwn.below {B : Nat} {W W' : World} {v : Value} {n : Nat} {fb : Bool} (h : WayOwn B W v n fb) (hb : Below W.heap.size W W') (hB : B ≤ W.heap.size) : WayOwn B W' v n fb := by
  obtain ⟨xs, ho, hx⟩ := h
  refine ⟨xs, ?_, hx⟩
  refine ⟨ho.1, ?_⟩
  rcases ho.2 with hn | ⟨g, cap, cur, rfl, hg, hgg, rest⟩
  · exact .inl hn
  · exact .inr ⟨g, cap, cur, rfl, hg, by rw [hb.block g (Array.getElem?_eq_some_iff.1 hgg).1]; exact hgg, rest⟩
theorem way_snoc {B : Nat} {W w2 : World} {v v' : Value} {n : Nat} {xs : List Value} {fb ia : Bool} {a c : Value} (hown : W.ownsRow B 45 3 v n xs) (hx : 0 < n → xs[1]? = some (.bool fb)) (hown2 : w2.ownsRow B 45 3 v' (n + 1) (xs ++ [a, .bool ia, c])) :
    WayOwn B w2 v' (n + 1) (if n = 0 then ia else fb) := by
  refine ⟨_, hown2, fun _ => ?_⟩
  by_cases h : n = 0
  · rw [if_pos h]
    have : xs = [] := List.eq_nil_of_length_eq_zero (by have := hown.1; omega)
    subst this; rfl
  · rw [if_neg h, List.getElem?_append_left (by have := hown.1; omega)]
    exact hx (by omega)
theorem new3 {W : World} {g : Nat} {T : TypeId} {a b c : Value} (hg : g = W.heap.size) : ∀ j u, [a, b, c][j]? = some u → (W.alloc (.cells #[a, b, c] T)).cell? ((⟨g, 0, none⟩ : Addr).add j) = some u := by
  subst hg
  intro j u hu
  have h := cell_of_row (W.alloc (.cells #[a, b, c] T)) W.heap.size j _ T (0, 0) (heap_alloc_new _ _)
  have e : (⟨W.heap.size, 0, none⟩ : Addr).add j = ⟨W.heap.size, j, none⟩ := by
    unfold Addr.add; split
    · rename_i e; subst e; rfl
    · simp
  rw [e, h]; simpa using hu
theorem one3 {a b c : Value} (ha : a.oneCell' = true) (hb : b.oneCell' = true) (hc : c.oneCell' = true) : ∀ u ∈ [a, b, c], u.oneCell' = true := by
  intro u hu; simp at hu; rcases hu with rfl | rfl | rfl <;> assumption
def ParsePost (r : PR) (w : World) (e : Ending) (w' : World) : Prop :=
  ∃ (A : Option Addr) (c : Nat) (pl : Int), e = .returned (.tuple #[.slice A r.len c, .int .i64 pl, .int .i64 r.err]) ∧ Below w.heap.size w w' ∧ (0 < r.len → ∃ g, A = some ⟨g, 0, none⟩ ∧ g < w'.heap.size ∧ w.heap.size ≤ g ∧ w'.cell? ⟨g, 1, none⟩ = some (.bool r.first))
theorem Tryd.info45 : (Tryd.prog.info? 45).map (fun i => (i.zero, i.size, i.bytes)) = some (some (.agg #[.string ⟨#[]⟩, .bool false, .int .i64 0]), 3, 32) := by kernel_rfl
theorem post_err {w w' : World} {pr : PR} {pl : Int} {er : Nat} (h : pr = ⟨er, 0, false⟩) (hb : Below w.heap.size w w') : ParsePost pr w (.returned (.tuple #[.slice none 0 0, .int .i64 pl, .int .i64 er])) w' := by
  subst h; exact ⟨none, 0, pl, rfl, hb, fun h => absurd h (by simp)⟩
theorem post_ok {w w' : World} {pr : PR} {n : Nat} {fb : Bool} {A : Option Addr} {c : Nat} (h : pr = ⟨0, n, fb⟩) (hb : Below w.heap.size w w') (hw : WayOwn w.heap.size w' (.slice A n c) n fb) : ParsePost pr w (.returned (.tuple #[.slice A n c, .int .i64 0, .int .i64 0])) w' := by
  subst h
  refine ⟨A, c, 0, rfl, hb, fun hn => ?_⟩
  obtain ⟨xs, ho, hx⟩ := hw
  obtain ⟨g, cap, hv, hg, hl⟩ := ho.form hn
  injection hv with hA _ hc
  subst hA
  have := ho.cells (g := g) rfl 1 _ (hx hn)
  exact ⟨g, rfl, hl, hg, by simpa [Addr.add] using this⟩
theorem parseS_step {f : Nat} {l : List UInt8} {k n : Nat} {fb : Bool} {c : UInt8} {bh : Bool} (hk : k < l.length) (hc : l.getD k 0 = c) (g1 : ¬ (0 < n ∧ c.toNat ≠ 46 ∧ c.toNat ≠ 91)) (g2 : ¬ 64 ≤ n) (hb : decide (0 < n) = bh) :
    parseS (f + 1) l k n fb = if (stepS l k bh).err = 0 then parseS f l (stepS l k bh).next (n + 1) (if n = 0 then (stepS l k bh).isAt else fb) else ⟨(stepS l k bh).err, 0, false⟩ := by
  rw [parseS, if_pos hk, hc, if_neg g1, if_neg g2, hb]
section
variable (s : ByteArray) (w : World) (hs : s.size ≤ 140737488351232) (tp : TypeId) (pe : Value) (hv : w.cell? ⟨1, 0, none⟩ = some (.iface tp pe)) (hw1 : 1 < w.heap.size)
include hs hv hw1
set_option maxRecDepth 100000 in
set_option maxHeartbeats 1000000 in
theorem Parse_any : Calls Tryd.prog 9 #[.string s] w (ParsePost (parseS (s.size + 1) s.data.toList 0 0 false) w) := by
  obtain ⟨i0, hi, hz0, hz1, hz2⟩ := info_parts Tryd.info45
  generalize hP : parseS (s.size + 1) s.data.toList 0 0 false = pr
  go_enter Tryd.func9, Tryd.ntmps9
  go_wp2
  go_loopw [5, 6] (fun v i wr => ∃ (k n f : Nat) (fb : Bool), i = .int .i64 k ∧ k ≤ s.size ∧ n ≤ 64 ∧ s.size < k + f ∧ Hid (parseS f s.data.toList k n fb = pr) ∧ Below w.heap.size w wr ∧ WayOwn w.heap.size wr v n fb) (fun _ i _ => s.size - (intOf i).toNat)
  case atStart => exact ⟨0, 0, s.size + 1, false, rfl, by omega, by omega, by omega, hP, Below.refl _ _, WayOwn.nil _ _⟩
  case round =>
    clear hP
    obtain ⟨k, n, f, fb, rfl, hk, hn, hf, HP, hb, hw⟩ := hrel
    obtain ⟨A, c, rfl⟩ := hw.form
    by_cases hlt : k < s.size
    · obtain ⟨f, rfl⟩ : ∃ g, f = g + 1 := ⟨f - 1, by omega⟩
      by_cases g1 : 0 < n ∧ s[k].toNat ≠ 46 ∧ s[k].toNat ≠ 91
      · have HR := Lib.hid (show pr = ⟨3, 0, false⟩ by rw [← HP.out, parseS, if_pos (by rw [len_list]; exact hlt), getD_at s k hlt, if_pos g1])
        obtain ⟨g1, g2, g3⟩ := g1
        have q1 : ((s[k].toNat : Int) != 46) = true := by rw [bne_iff_ne]; omega
        have q2 : ((s[k].toNat : Int) != 91) = true := by rw [bne_iff_ne]; omega
        clear g2 g3
        go_wp2
        go_ret3
        exact post_err HR.out hb
      · by_cases g2 : 64 ≤ n
        · have HR := Lib.hid (show pr = ⟨2, 0, false⟩ by rw [← HP.out, parseS, if_pos (by rw [len_list]; exact hlt), getD_at s k hlt, if_neg g1, if_pos g2])
          have hn0 : 0 < n := by omega
          obtain rfl : n = 64 := by omega
          have hc : s[k].toNat = 46 ∨ (s[k].toNat ≠ 46 ∧ s[k].toNat = 91) := by
            by_cases e : s[k].toNat = 46
            · exact .inl e
            · exact .inr ⟨e, by
                by_cases e2 : s[k].toNat = 91
                · exact e2
                · exact absurd ⟨hn0, e, e2⟩ g1⟩
          clear g1
          rcases hc with hc | ⟨hc, hd⟩
          · have q1 : ((s[k].toNat : Int) != 46) = false := by rw [hc]; rfl
            clear hc
            go_wp2
            go_ret3
            exact post_err HR.out hb
          · have q1 : ((s[k].toNat : Int) != 46) = true := by rw [bne_iff_ne]; omega
            have q2 : ((s[k].toNat : Int) != 91) = false := by rw [hd]; rfl
            clear hc hd
            go_wp2
            go_ret3
            exact post_err HR.out hb
        · have hcases : (n = 0 ∧ decide (0 < n) = false) ∨ (decide (0 < n) = true ∧ 0 < n ∧ ((s[k].toNat : Int) != 46) = false) ∨ (decide (0 < n) = true ∧ 0 < n ∧ ((s[k].toNat : Int) != 46) = true ∧ ((s[k].toNat : Int) != 91) = false) := by
            rcases Nat.eq_zero_or_pos n with h | h
            · exact .inl ⟨h, by simp [h]⟩
            · by_cases e : s[k].toNat = 46
              · exact .inr (.inl ⟨by simpa using h, h, by rw [e]; rfl⟩)
              · refine .inr (.inr ⟨by simpa using h, h, by rw [bne_iff_ne]; omega, ?_⟩)
                by_cases e2 : s[k].toNat = 91
                · rw [e2]; rfl
                · exact absurd ⟨h, e, e2⟩ g1
          have HPS := fun bh (hbh : decide (0 < n) = bh) => Lib.hid (parseS_step (f := f) (l := s.data.toList) (fb := fb) (by rw [len_list]; exact hlt) (getD_at s k hlt) g1 g2 hbh)
          have HST := fun bh (W : World) (hW : Below w.heap.size w W) => step_any s k bh W hs hlt tp pe ((hW.cell (p := ⟨1, 0, none⟩) hw1).trans hv) (by have := hW.size; omega)
          have HSB := fun bh => Lib.hid (stepS_next (l := s.data.toList) (k := k) (b := bh) (by rw [len_list]; exact hlt))
          rcases hcases with ⟨h0, hbh⟩ | ⟨hbh, h0, q1⟩ | ⟨hbh, h0, q1, q2⟩
          · subst h0
            have HPs := HPS _ hbh
            have HSt := Lib.hid (HST false)
            have HSb := HSB false
            clear HPS HST HSB hbh g1 g2
            go_wp2_with fail
            refine (HSt.out _ hb).mono ?_
            rintro e w1 ⟨nm, ix, nx, pl, rfl, hnx, hb1⟩
            clear HSt
            generalize stepS s.data.toList k false = r at *
            obtain ⟨er, nxt, ia⟩ := r
            simp only [] at hnx
            have hw1 := hw.below hb1 hb.size
            have hb2 := hb.trans (hb1.mono hb.size)
            by_cases he : er = 0
            · subst he
              obtain ⟨hn1, hn2⟩ := HSb.out rfl
              have hn3 := hnx rfl
              simp only [] at hn1 hn2 hn3
              rw [len_list] at hn2
              subst hn3
              have HPf := Lib.hid (HPs.out.symm.trans HP.out)
              clear HPs HP hnx HSb hw hb hb1
              obtain ⟨xs, hown, hxs⟩ := hw1
              go_wp2_with (at_builtin; go_must (refine wpList_append_own _ rfl (.tmp 50) (.tmp 52) 41 rfl w.heap.size 45 i0 _ 3 32 Tryd.underlying41 hi hz0 hz1 hz2 rfl (by omega) (.slice A 0 c) 0 xs rfl ((hown.alloc _).alloc _) ⟨w1.heap.size + 1, 0, none⟩ 1 1 [.string nm, .bool ia, .int .i64 ix] rfl rfl (new3 (by simp)) (one3 rfl rfl rfl) (by simp only [maxLen]; omega) (by omega) (by simp; have := hb2.size; omega) ?_); intro v' w2 hown2 hg2 hnil)
              refine ⟨⟨nxt, 0 + 1, f, if 0 = 0 then ia else fb, rfl, hn2, by omega, by omega, ?_, ?_, way_snoc hown hxs hown2⟩, by simp [intOf]; omega⟩
              · exact HPf.out
              · exact ((hb2.alloc hb2.size _).alloc (by simp; have := hb2.size; omega) _).grown hg2 (by simp; have := hb2.size; omega) (fun j hj => (hown.lt j hj).1)
            · have HR := Lib.hid (show pr = ⟨er, 0, false⟩ by have := HP.out; rw [HPs.out, if_neg he] at this; exact this.symm)
              have he' : ((er : Int) != 0) = true := by rw [bne_iff_ne]; omega
              clear HPs HP hnx HSb
              go_wp2
              go_ret3
              exact post_err HR.out (hb2.alloc hb2.size _)
          · have HPs := HPS _ hbh
            have HSt := Lib.hid (HST true)
            have HSb := HSB true
            have hn64 : n < 64 := by omega
            clear HPS HST HSB hbh g1 g2
            go_wp2_with fail
            refine (HSt.out _ hb).mono ?_
            rintro e w1 ⟨nm, ix, nx, pl, rfl, hnx, hb1⟩
            clear HSt
            generalize stepS s.data.toList k true = r at *
            obtain ⟨er, nxt, ia⟩ := r
            simp only [] at hnx
            have hw1 := hw.below hb1 hb.size
            have hb2 := hb.trans (hb1.mono hb.size)
            by_cases he : er = 0
            · subst he
              obtain ⟨hn1, hn2⟩ := HSb.out rfl
              have hn3 := hnx rfl
              simp only [] at hn1 hn2 hn3
              rw [len_list] at hn2
              subst hn3
              have HPf := Lib.hid (HPs.out.symm.trans HP.out)
              clear HPs HP hnx HSb hw hb hb1
              obtain ⟨xs, hown, hxs⟩ := hw1
              go_wp2_with (at_builtin; go_must (refine wpList_append_own _ rfl (.tmp 50) (.tmp 52) 41 rfl w.heap.size 45 i0 _ 3 32 Tryd.underlying41 hi hz0 hz1 hz2 rfl (by omega) (.slice A n c) n xs rfl ((hown.alloc _).alloc _) ⟨w1.heap.size + 1, 0, none⟩ 1 1 [.string nm, .bool ia, .int .i64 ix] rfl rfl (new3 (by simp)) (one3 rfl rfl rfl) (by simp only [maxLen]; omega) (by omega) (by simp; have := hb2.size; omega) ?_); intro v' w2 hown2 hg2 hnil)
              refine ⟨⟨nxt, n + 1, f, if n = 0 then ia else fb, rfl, hn2, by omega, by omega, ?_, ?_, way_snoc hown hxs hown2⟩, by simp [intOf]; omega⟩
              · exact HPf.out
              · exact ((hb2.alloc hb2.size _).alloc (by simp; have := hb2.size; omega) _).grown hg2 (by simp; have := hb2.size; omega) (fun j hj => (hown.lt j hj).1)
            · have HR := Lib.hid (show pr = ⟨er, 0, false⟩ by have := HP.out; rw [HPs.out, if_neg he] at this; exact this.symm)
              have he' : ((er : Int) != 0) = true := by rw [bne_iff_ne]; omega
              clear HPs HP hnx HSb
              go_wp2
              go_ret3
              exact post_err HR.out (hb2.alloc hb2.size _)
          · have HPs := HPS _ hbh
            have HSt := Lib.hid (HST true)
            have HSb := HSB true
            have hn64 : n < 64 := by omega
            clear HPS HST HSB hbh g1 g2
            go_wp2_with fail
            refine (HSt.out _ hb).mono ?_
            rintro e w1 ⟨nm, ix, nx, pl, rfl, hnx, hb1⟩
            clear HSt
            generalize stepS s.data.toList k true = r at *
            obtain ⟨er, nxt, ia⟩ := r
            simp only [] at hnx
            have hw1 := hw.below hb1 hb.size
            have hb2 := hb.trans (hb1.mono hb.size)
            by_cases he : er = 0
            · subst he
              obtain ⟨hn1, hn2⟩ := HSb.out rfl
              have hn3 := hnx rfl
              simp only [] at hn1 hn2 hn3
              rw [len_list] at hn2
              subst hn3
              have HPf := Lib.hid (HPs.out.symm.trans HP.out)
              clear HPs HP hnx HSb hw hb hb1
              obtain ⟨xs, hown, hxs⟩ := hw1
              go_wp2_with (at_builtin; go_must (refine wpList_append_own _ rfl (.tmp 50) (.tmp 52) 41 rfl w.heap.size 45 i0 _ 3 32 Tryd.underlying41 hi hz0 hz1 hz2 rfl (by omega) (.slice A n c) n xs rfl ((hown.alloc _).alloc _) ⟨w1.heap.size + 1, 0, none⟩ 1 1 [.string nm, .bool ia, .int .i64 ix] rfl rfl (new3 (by simp)) (one3 rfl rfl rfl) (by simp only [maxLen]; omega) (by omega) (by simp; have := hb2.size; omega) ?_); intro v' w2 hown2 hg2 hnil)
              refine ⟨⟨nxt, n + 1, f, if n = 0 then ia else fb, rfl, hn2, by omega, by omega, ?_, ?_, way_snoc hown hxs hown2⟩, by simp [intOf]; omega⟩
              · exact HPf.out
              · exact ((hb2.alloc hb2.size _).alloc (by simp; have := hb2.size; omega) _).grown hg2 (by simp; have := hb2.size; omega) (fun j hj => (hown.lt j hj).1)
            · have HR := Lib.hid (show pr = ⟨er, 0, false⟩ by have := HP.out; rw [HPs.out, if_neg he] at this; exact this.symm)
              have he' : ((er : Int) != 0) = true := by rw [bne_iff_ne]; omega
              clear HPs HP hnx HSb
              go_wp2
              go_ret3
              exact post_err HR.out (hb2.alloc hb2.size _)
    · obtain rfl : k = s.size := by omega
      have HR := Lib.hid (show pr = ⟨0, n, fb⟩ by
        obtain ⟨f, rfl⟩ : ∃ g, f = g + 1 := ⟨f - 1, by omega⟩
        rw [← HP.out, parseS, if_neg (by rw [len_list]; omega)])
      go_wp2
      go_ret3
      exact post_ok HR.out hb hw
end
end Go.Proofs.YtcgefpeachgchaaDoor
