/- Walks: the document's index. -/
import Derived.Test.YtcgefpeachgchaaDoorB9
namespace Go.Proofs.YtcgefpeachgchaaDoor
open Go Go.RowKit
theorem NC.below {w w1 : World} {g : Nat} {a b c : Value} (h : NC w g a b c) (hb : Below w.heap.size w w1) (hg : g < w.heap.size) : NC w1 g a b c :=
  ⟨(hb.cell (p := ⟨g, 0, none⟩) hg).trans h.r0, (hb.cell (p := ⟨g, 1, none⟩) hg).trans h.r1, (hb.cell (p := ⟨g, 2, none⟩) hg).trans h.r2, (hb.frozen (p := ⟨g, 0, none⟩) hg).trans h.f0, (hb.frozen (p := ⟨g, 1, none⟩) hg).trans h.f1, (hb.frozen (p := ⟨g, 2, none⟩) hg).trans h.f2⟩
theorem Rdr.below {w w1 : World} {b : Nat} {s : ByteArray} {k : Nat} (h : Rdr w b s k) (hb : Below w.heap.size w w1) (hg : b < w.heap.size) : Rdr w1 b s k :=
  ⟨(hb.cell (p := ⟨b, 0, none⟩) hg).trans h.r0, (hb.cell (p := ⟨b, 1, none⟩) hg).trans h.r1, (hb.frozen (p := ⟨b, 1, none⟩) hg).trans h.f1⟩
section
variable (s : ByteArray) (k : Nat) (bh : Bool) (w : World) (hs : s.size ≤ 140737488351232) (hk : k < s.size) (n : Nat) (hn : spanLen digB s.data.toList (k + 1) = n)
include hs hk hn
set_option maxRecDepth 100000 in
set_option maxHeartbeats 400000 in
theorem ref_idxR (hc : ((s[k].toNat : Int) == 91) = true) (hend : k + 1 + n < s.size)
    (h0 : 0 < n) (h2 : ¬ ((s.data.toList.getD (k + 1) 0).toNat = 48 ∧ n ≠ 1)) (h3 : (s.data.toList.getD (k + 1 + n) 0).toNat = 93) :
    Calls Tryd.prog 14 #[.string s, .int .i64 k] w (RefPost (stepS s.data.toList k bh) w) := by
  have HS := Lib.hid (show stepS s.data.toList k bh = if smallB ((s.data.toList.drop (k + 1)).take n) then ⟨0, k + 1 + n + 1, true⟩ else ⟨1, 0, false⟩ by
    unfold stepS; rw [getD_at s k hk, if_pos (by have := eq_of_beq hc; omega), hn, if_neg (by rw [len_list]; omega), if_neg (by omega)])
  have hrun := fun (W : World) b (hr : Rdr W b s (k + 1)) => Run_dec s b (k + 1) W hs (by omega) hr
  unfold RunPost at hrun
  rw [hn] at hrun
  have HRUN := Lib.hid hrun
  have HN := Lib.hid hn
  clear hrun hn
  have he : (((k + 1 + n : Nat) : Int) == (s.size : Int)) = false := by rw [beq_eq_false_iff_ne]; omega
  have h48 : ∀ wd : ByteArray, wd.size = n → Word s.data.toList (k + 1) n wd → ∀ h : 0 < wd.size, ((wd[0].toNat : Int) == 48) = decide ((s.data.toList.getD (k + 1) 0).toNat = 48) := by
    intro wd _ hw h
    rw [hw.at_ h]
    exact int_beq _ 48
  have h93 : ((s[k + 1 + n].toNat : Int) != 93) = false := by
    rw [getD_at s _ hend] at h3
    rw [h3]; rfl
  clear h3
  have hat : ∀ (W : World) (wd : ByteArray), wd.size = n → Word s.data.toList (k + 1) n wd → Calls Tryd.prog 21 #[.string wd] W (NatPost (smallB ((s.data.toList.drop (k + 1)).take n)) W) := by
    intro W wd hsz hw
    have hlt : wd.size ≤ s.size := by omega
    have hz : NoZero wd.data.toList ∨ wd.data.toList.length = 1 := by
      by_cases e : n = 1
      · exact .inr (by rw [len_list]; omega)
      · refine .inl (fun c hc => ?_)
        have hp : 0 < wd.size := by omega
        rw [get_at wd 0 hp] at hc
        injection hc with hc
        rw [← hc, hw.at_ hp]
        exact fun h => h2 ⟨h, e⟩
    have := Natural_any wd (by omega) (by omega) (word_all hw HN.out) hz W
    rwa [show wd.data.toList = _ from hw] at this
  have HA := Lib.hid hat
  clear hat
  by_cases h4 : (s.data.toList.getD (k + 1) 0).toNat = 48
  · have hn1 : n = 1 := by
      by_cases e : n = 1
      · exact e
      · exact absurd ⟨h4, e⟩ h2
    subst hn1
    rw [decide_eq_true h4] at h48
    clear h2 h4 h0
    have H4 := Lib.hid h48
    clear h48
    go_enter Tryd.func14, Tryd.ntmps14
    go_wp2_with fail
    refine (HRUN.out _ _ ?hr).mono ?_
    case hr => 
      constructor
      · go_simp
      · go_simp
      · go_simp
    rintro e w1 ⟨wd, rfl, hsz, hwd, hb, ⟨r0, r1, f1⟩⟩
    have hz := hb.size
    simp only [World.size_alloc] at hz
    obtain ⟨a0, a1, a2, b0, b1, b2⟩ := ref_cells hb
    have hne := Nat.ne_of_lt (Nat.lt_succ_self w.heap.size)
    have hbel := ref_below hb
    clear hb
    have hemp := isEmpty_of (s := wd) (by omega)
    have hw0 := H4.out wd hsz hwd (by omega)
    go_wp2_with fail
    refine (HA.out _ wd hsz hwd).mono ?_
    rintro e w2 ⟨m, ok, rfl, m1, m2, m3, hb2⟩
    obtain ⟨a0, a1, a2, b0, b1, b2⟩ := NC.below (NC.mk a0 a1 a2 b0 b1 b2) hb2 (by omega)
    obtain ⟨r0, r1, f1⟩ := Rdr.below (Rdr.mk r0 r1 f1) hb2 (by omega)
    have hbel2 := hbel.trans (hb2.mono hbel.size)
    have hz2 : w.heap.size + 2 ≤ w2.heap.size := by have := hb2.size; omega
    clear hb2 hbel
    cases hsm : smallB ((s.data.toList.drop (k + 1)).take 1)
    all_goals
      rw [hsm] at m3 HS
      simp only [if_true, if_false, Bool.false_eq_true] at HS
    · cases ok with
      | false =>
        clear m3
        go_wp2
        refine bodyPost_ret (v := .tuple #[.agg #[.string ⟨#[]⟩, .bool false, .int .i64 0], .int .i64 k, .int .i64 1]) (by simp [results, Tryd.results14, go_sem, a0, a1, a2, b0, b1, b2]) rfl ?_
        exact post_ref HS.out (fun h => by cases h) (ref_set hbel2)
      | true =>
        have m4 : 4096 ≤ m := by
          rcases Int.lt_or_le m 4096 with h | h
          · have := m3.2 ⟨rfl, h⟩; cases this
          · exact h
        clear m3
        go_wp2
        refine bodyPost_ret (v := .tuple #[.agg #[.string ⟨#[]⟩, .bool false, .int .i64 0], .int .i64 k, .int .i64 1]) (by simp [results, Tryd.results14, go_sem, a0, a1, a2, b0, b1, b2]) rfl ?_
        exact post_ref HS.out (fun h => by cases h) (ref_set hbel2)
    · obtain ⟨rfl, m4⟩ := m3.1 rfl
      clear m3
      go_wp2
      go_region
      go_wp2
      refine bodyPost_ret (v := .tuple #[.agg #[.string ⟨#[]⟩, .bool true, .int .i64 m], .int .i64 (k + 1 + 1 + 1), .int .i64 0]) (by simp [results, Tryd.results14, go_sem, a0, a1, a2, b0, b1, b2]) rfl ?_
      exact post_ref HS.out (fun h => by omega) (ref_set hbel2).drew
  · rw [decide_eq_false h4] at h48
    clear h2 h4
    have H4 := Lib.hid h48
    clear h48
    go_enter Tryd.func14, Tryd.ntmps14
    go_wp2_with fail
    refine (HRUN.out _ _ ?hr).mono ?_
    case hr => 
      constructor
      · go_simp
      · go_simp
      · go_simp
    rintro e w1 ⟨wd, rfl, hsz, hwd, hb, ⟨r0, r1, f1⟩⟩
    have hz := hb.size
    simp only [World.size_alloc] at hz
    obtain ⟨a0, a1, a2, b0, b1, b2⟩ := ref_cells hb
    have hne := Nat.ne_of_lt (Nat.lt_succ_self w.heap.size)
    have hbel := ref_below hb
    clear hb
    have hemp := isEmpty_of (s := wd) (by omega)
    have hw0 := H4.out wd hsz hwd (by omega)
    go_wp2_with fail
    refine (HA.out _ wd hsz hwd).mono ?_
    rintro e w2 ⟨m, ok, rfl, m1, m2, m3, hb2⟩
    obtain ⟨a0, a1, a2, b0, b1, b2⟩ := NC.below (NC.mk a0 a1 a2 b0 b1 b2) hb2 (by omega)
    obtain ⟨r0, r1, f1⟩ := Rdr.below (Rdr.mk r0 r1 f1) hb2 (by omega)
    have hbel2 := hbel.trans (hb2.mono hbel.size)
    have hz2 : w.heap.size + 2 ≤ w2.heap.size := by have := hb2.size; omega
    clear hb2 hbel
    cases hsm : smallB ((s.data.toList.drop (k + 1)).take n)
    all_goals
      rw [hsm] at m3 HS
      simp only [if_true, if_false, Bool.false_eq_true] at HS
    · cases ok with
      | false =>
        clear m3
        go_wp2
        refine bodyPost_ret (v := .tuple #[.agg #[.string ⟨#[]⟩, .bool false, .int .i64 0], .int .i64 k, .int .i64 1]) (by simp [results, Tryd.results14, go_sem, a0, a1, a2, b0, b1, b2]) rfl ?_
        exact post_ref HS.out (fun h => by cases h) (ref_set hbel2)
      | true =>
        have m4 : 4096 ≤ m := by
          rcases Int.lt_or_le m 4096 with h | h
          · have := m3.2 ⟨rfl, h⟩; cases this
          · exact h
        clear m3
        go_wp2
        refine bodyPost_ret (v := .tuple #[.agg #[.string ⟨#[]⟩, .bool false, .int .i64 0], .int .i64 k, .int .i64 1]) (by simp [results, Tryd.results14, go_sem, a0, a1, a2, b0, b1, b2]) rfl ?_
        exact post_ref HS.out (fun h => by cases h) (ref_set hbel2)
    · obtain ⟨rfl, m4⟩ := m3.1 rfl
      clear m3
      go_wp2
      go_region
      go_wp2
      refine bodyPost_ret (v := .tuple #[.agg #[.string ⟨#[]⟩, .bool true, .int .i64 m], .int .i64 (k + 1 + n + 1), .int .i64 0]) (by simp [results, Tryd.results14, go_sem, a0, a1, a2, b0, b1, b2]) rfl ?_
      exact post_ref HS.out (fun h => by omega) (ref_set hbel2).drew
end
end Go.Proofs.YtcgefpeachgchaaDoor
