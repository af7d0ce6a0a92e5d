/- Walks: the document's name step. -/
import Derived.Test.YtcgefpeachgchaaDoorB11
namespace Go.Proofs.YtcgefpeachgchaaDoor
open Go Go.RowKit
section
variable (s : ByteArray) (k a : Nat) (bh : Bool) (w : World) (hs : s.size ≤ 140737488351232) (hk : k < s.size) (ha : a = if bh then k + 1 else k) (n : Nat) (hn : spanLen inName s.data.toList a = n)
include hs hk hn ha
set_option maxRecDepth 100000 in
set_option maxHeartbeats 400000 in
theorem ref_name (hc : ((s[k].toNat : Int) == 91) = false) :
    Calls Tryd.prog 15 #[.string s, .int .i64 a] w (RefPost (stepS s.data.toList k bh) w) := by
  have HS := Lib.hid (show stepS s.data.toList k bh = if n = 0 ∧ a = s.size then ⟨4, 0, false⟩ else if n = 0 then ⟨3, 0, false⟩ else if nameB ((s.data.toList.drop a).take n) then ⟨0, a + n, false⟩ else ⟨8, 0, false⟩ by
    unfold stepS; rw [getD_at s k hk, if_neg (by have := ne_of_beq_false hc; omega), ← ha, hn, len_list])
  have hle := span_le inName s.data.toList a
  rw [len_list, hn] at hle
  have hak : k ≤ a ∧ a ≤ k + 1 := by subst ha; split <;> omega
  obtain ⟨hk1, hk2⟩ := hak
  have hrun := fun (W : World) b (hr : Rdr W b s a) => Run_name s b a W hs (by omega) hr
  unfold RunPost at hrun
  rw [hn] at hrun
  have HRUN := Lib.hid hrun
  clear hrun hn ha hc
  by_cases h0 : n = 0
  · subst h0
    by_cases h1 : a = s.size
    · rw [if_pos ⟨rfl, h1⟩] at HS
      have he : ((a : Int) == (s.size : Int)) = true := by rw [h1]; simp
      have HE := Lib.hid h1
      clear h1
      go_enter Tryd.func15, Tryd.ntmps15
      go_wp2_with fail
      refine (HRUN.out _ _ ?hr).mono ?_
      case hr => 
        constructor
        · go_simp
        · go_simp
        · go_simp
      rintro e w1 ⟨wd, rfl, hsz, hwd, hb, ⟨r0, r1, f1⟩⟩
      have hz := hb.size
      simp only [World.size_alloc] at hz
      obtain ⟨a0, a1, a2, b0, b1, b2⟩ := ref_cells hb
      have hne := Nat.ne_of_lt (Nat.lt_succ_self w.heap.size)
      have hbel := ref_below hb
      clear hb
      have hemp := isEmpty_nil hsz
      go_wp2
      refine bodyPost_ret (v := .tuple #[.agg #[.string ⟨#[]⟩, .bool false, .int .i64 0], .int .i64 a, .int .i64 4]) (by simp [results, Tryd.results15, go_sem, a0, a1, a2, b0, b1, b2]) rfl ?_
      exact post_ref HS.out (fun h => by cases h) (ref_set hbel)
    · rw [if_neg (by omega), if_pos rfl] at HS
      have he : ((a : Int) == (s.size : Int)) = false := by rw [beq_eq_false_iff_ne]; omega
      clear h1
      go_enter Tryd.func15, Tryd.ntmps15
      go_wp2_with fail
      refine (HRUN.out _ _ ?hr).mono ?_
      case hr => 
        constructor
        · go_simp
        · go_simp
        · go_simp
      rintro e w1 ⟨wd, rfl, hsz, hwd, hb, ⟨r0, r1, f1⟩⟩
      have hz := hb.size
      simp only [World.size_alloc] at hz
      obtain ⟨a0, a1, a2, b0, b1, b2⟩ := ref_cells hb
      have hne := Nat.ne_of_lt (Nat.lt_succ_self w.heap.size)
      have hbel := ref_below hb
      clear hb
      have hemp := isEmpty_nil hsz
      go_wp2
      refine bodyPost_ret (v := .tuple #[.agg #[.string ⟨#[]⟩, .bool false, .int .i64 0], .int .i64 a, .int .i64 3]) (by simp [results, Tryd.results15, go_sem, a0, a1, a2, b0, b1, b2]) rfl ?_
      exact post_ref HS.out (fun h => by cases h) (ref_set hbel)
  · rw [if_neg (by omega), if_neg h0] at HS
    have hi : ∀ wd : ByteArray, wd.size = n → Word s.data.toList a n wd → ∀ W : World, Calls Tryd.prog 10 #[.string wd] W fun e w' => e = .returned (.bool (nameB ((s.data.toList.drop a).take n))) ∧ W = w' := by
      intro wd hsz hw W
      have h3 : wd.size ≤ s.size := by omega
      have := refName_any wd W (by omega)
      rwa [show wd.data.toList = _ from hw] at this
    have hn0 : 0 < n := by omega
    clear h0
    cases hb : nameB ((s.data.toList.drop a).take n)
    all_goals
      rw [hb] at hi HS
      simp only [if_true, if_false, Bool.false_eq_true] at HS
      have HI := Lib.hid hi
      clear hi hb
    · go_enter Tryd.func15, Tryd.ntmps15
      go_wp2_with fail
      refine (HRUN.out _ _ ?hr).mono ?_
      case hr => 
        constructor
        · go_simp
        · go_simp
        · go_simp
      rintro e w1 ⟨wd, rfl, hsz, hwd, hb, ⟨r0, r1, f1⟩⟩
      have hz := hb.size
      simp only [World.size_alloc] at hz
      obtain ⟨a0, a1, a2, b0, b1, b2⟩ := ref_cells hb
      have hne := Nat.ne_of_lt (Nat.lt_succ_self w.heap.size)
      have hbel := ref_below hb
      clear hb
      have hemp := isEmpty_of (s := wd) (by omega)
      go_wp2_with (go_at_call 10; refine (HI.out wd hsz hwd _).mono ?_; rintro e w1 ⟨rfl, rfl⟩)
      refine bodyPost_ret (v := .tuple #[.agg #[.string ⟨#[]⟩, .bool false, .int .i64 0], .int .i64 a, .int .i64 8]) (by simp [results, Tryd.results15, go_sem, a0, a1, a2, b0, b1, b2]) rfl ?_
      exact post_ref HS.out (fun h => by cases h) (ref_set hbel)
    · go_enter Tryd.func15, Tryd.ntmps15
      go_wp2_with fail
      refine (HRUN.out _ _ ?hr).mono ?_
      case hr => 
        constructor
        · go_simp
        · go_simp
        · go_simp
      rintro e w1 ⟨wd, rfl, hsz, hwd, hb, ⟨r0, r1, f1⟩⟩
      have hz := hb.size
      simp only [World.size_alloc] at hz
      obtain ⟨a0, a1, a2, b0, b1, b2⟩ := ref_cells hb
      have hne := Nat.ne_of_lt (Nat.lt_succ_self w.heap.size)
      have hbel := ref_below hb
      clear hb
      have hemp := isEmpty_of (s := wd) (by omega)
      go_wp2_with (go_at_call 10; refine (HI.out wd hsz hwd _).mono ?_; rintro e w1 ⟨rfl, rfl⟩)
      go_region
      go_wp2
      refine bodyPost_ret (v := .tuple #[.agg #[.string wd, .bool false, .int .i64 0], .int .i64 (a + n), .int .i64 0]) (by simp [results, Tryd.results15, go_sem, a0, a1, a2, b0, b1, b2]) rfl ?_
      exact post_ref HS.out (fun h => by omega) (ref_set hbel).drew
end
end Go.Proofs.YtcgefpeachgchaaDoor
