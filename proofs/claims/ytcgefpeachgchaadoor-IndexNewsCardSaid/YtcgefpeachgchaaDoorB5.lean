/- Walks: a name's step; a step. -/
import Derived.Test.YtcgefpeachgchaaDoorB4
namespace Go.Proofs.YtcgefpeachgchaaDoor
open Go Go.RowKit
theorem inB_name' : inB [97, 98, 99, 100, 101, 102, 103, 104, 105, 106, 107, 108, 109, 110, 111, 112, 113, 114, 115, 116, 117, 118, 119, 120, 121, 122, 48, 49, 50, 51, 52, 53, 54, 55, 56, 57, 95] = inName := inB_name
section
variable (s : ByteArray) (k a : Nat) (bh : Bool) (w : World) (hs : s.size ≤ 140737488351232) (hk : k < s.size) (ha : a = if bh then k + 1 else k) (n : Nat) (hn : spanLen inName s.data.toList a = n)
include hs hk hn ha
set_option maxRecDepth 100000 in
set_option maxHeartbeats 400000 in
theorem step_name (hc : ((s[k].toNat : Int) == 91) = false) :
    Calls Tryd.prog 13 #[.string s, .int .i64 k, .bool bh] w (StepPost (stepS s.data.toList k bh) w) := by
  have HS := Lib.hid (show stepS s.data.toList k bh = if n = 0 ∧ a = s.size then ⟨4, 0, false⟩ else if n = 0 then ⟨3, 0, false⟩ else if nameB ((s.data.toList.drop a).take n) then ⟨0, a + n, false⟩ else ⟨8, 0, false⟩ by
    unfold stepS; rw [getD_at s k hk, if_neg (by have := ne_of_beq_false hc; omega), ← ha, hn, len_list])
  have HN := Lib.hid hn
  have hle := span_le inName s.data.toList a
  rw [len_list, hn] at hle
  clear hn
  have hak : k ≤ a ∧ a ≤ k + 1 := by subst ha; split <;> omega
  obtain ⟨hk1, hk2⟩ := hak
  have hsp : ∀ W : World, ∀ x : Int, x = a → Calls Tryd.prog 17 #[.string s, .int .i64 x, .string ⟨#[97, 98, 99, 100, 101, 102, 103, 104, 105, 106, 107, 108, 109, 110, 111, 112, 113, 114, 115, 116, 117, 118, 119, 120, 121, 122, 48, 49, 50, 51, 52, 53, 54, 55, 56, 57, 95]⟩] W fun e w' => ∃ wd : ByteArray, e = .returned (.string wd) ∧ wd.size = n ∧ Word s.data.toList a n wd ∧ W = w' :=
    fun W x hx => span_of inName _ inB_name' s a n x W hs (by omega) hx HN.out
  have HP := Lib.hid hsp
  clear hsp
  by_cases h0 : n = 0
  · subst h0
    by_cases h1 : a = s.size
    · rw [if_pos ⟨rfl, h1⟩] at HS
      have he : ∀ x : Int, x = a → (x == (s.size : Int)) = true := fun x hx => by rw [hx, h1]; simp
      have HE := Lib.hid he
      clear he h1
      cases bh
      all_goals simp only [if_true, if_false, Bool.false_eq_true] at ha
      · have hx := HE.out (k) (by omega)
        go_enter Tryd.func13, Tryd.ntmps13
        go_wp2_with (go_at_call 17; refine (HP.out _ _ (by omega)).mono ?_; rintro e w1 ⟨wd, rfl, hsz, hwd, rfl⟩; have hemp := isEmpty_nil hsz)
        refine bodyPost_ret (v := .tuple #[.agg #[.string ⟨#[]⟩, .bool false, .int .i64 0], .int .i64 0, .int .i64 (k), .int .i64 4]) (by simp [results, Tryd.results13, go_sem]) rfl ?_
        exact post_step HS.out (fun h => by first | (cases h; done) | omega) ((((Below.refl _ _).alloc (Nat.le_refl _) _).alloc (by simp) _))
      · have hx := HE.out (k + 1) (by omega)
        go_enter Tryd.func13, Tryd.ntmps13
        go_wp2_with (go_at_call 17; refine (HP.out _ _ (by omega)).mono ?_; rintro e w1 ⟨wd, rfl, hsz, hwd, rfl⟩; have hemp := isEmpty_nil hsz)
        refine bodyPost_ret (v := .tuple #[.agg #[.string ⟨#[]⟩, .bool false, .int .i64 0], .int .i64 0, .int .i64 (k + 1), .int .i64 4]) (by simp [results, Tryd.results13, go_sem]) rfl ?_
        exact post_step HS.out (fun h => by first | (cases h; done) | omega) ((((Below.refl _ _).alloc (Nat.le_refl _) _).alloc (by simp) _))
    · rw [if_neg (by omega), if_pos rfl] at HS
      have he : ∀ x : Int, x = a → (x == (s.size : Int)) = false := fun x hx => by rw [beq_eq_false_iff_ne]; omega
      have HE := Lib.hid he
      clear he h1
      cases bh
      all_goals simp only [if_true, if_false, Bool.false_eq_true] at ha
      · have hx := HE.out (k) (by omega)
        go_enter Tryd.func13, Tryd.ntmps13
        go_wp2_with (go_at_call 17; refine (HP.out _ _ (by omega)).mono ?_; rintro e w1 ⟨wd, rfl, hsz, hwd, rfl⟩; have hemp := isEmpty_nil hsz)
        refine bodyPost_ret (v := .tuple #[.agg #[.string ⟨#[]⟩, .bool false, .int .i64 0], .int .i64 0, .int .i64 (k), .int .i64 3]) (by simp [results, Tryd.results13, go_sem]) rfl ?_
        exact post_step HS.out (fun h => by first | (cases h; done) | omega) ((((Below.refl _ _).alloc (Nat.le_refl _) _).alloc (by simp) _))
      · have hx := HE.out (k + 1) (by omega)
        go_enter Tryd.func13, Tryd.ntmps13
        go_wp2_with (go_at_call 17; refine (HP.out _ _ (by omega)).mono ?_; rintro e w1 ⟨wd, rfl, hsz, hwd, rfl⟩; have hemp := isEmpty_nil hsz)
        refine bodyPost_ret (v := .tuple #[.agg #[.string ⟨#[]⟩, .bool false, .int .i64 0], .int .i64 0, .int .i64 (k + 1), .int .i64 3]) (by simp [results, Tryd.results13, go_sem]) rfl ?_
        exact post_step HS.out (fun h => by first | (cases h; done) | omega) ((((Below.refl _ _).alloc (Nat.le_refl _) _).alloc (by simp) _))
  · rw [if_neg (by omega), if_neg h0] at HS
    have hi : ∀ wd : ByteArray, wd.size = n → Word s.data.toList a n wd → ∀ W : World, Calls Tryd.prog 19 #[.string wd] W fun e w' => e = .returned (.bool (nameB ((s.data.toList.drop a).take n))) ∧ W = w' := by
      intro wd hsz hw W
      have h3 : wd.size ≤ s.size := by omega
      have := isName_any wd W (by omega)
      rwa [show wd.data.toList = _ from hw] at this
    have hn0 : 0 < n := by omega
    clear h0
    cases hb : nameB ((s.data.toList.drop a).take n)
    all_goals
      rw [hb] at hi HS
      simp only [if_true, if_false, Bool.false_eq_true] at HS
      have HI := Lib.hid hi
      clear hi hb
    · cases bh
      all_goals simp only [if_true, if_false, Bool.false_eq_true] at ha
      · go_enter Tryd.func13, Tryd.ntmps13
        go_wp2_with (first | (go_at_call 17; refine (HP.out _ _ (by omega)).mono ?_; rintro e w1 ⟨wd, rfl, hsz, hwd, rfl⟩; have hemp := isEmpty_of (s := wd) (by omega)) | (go_at_call 19; refine (HI.out wd hsz hwd _).mono ?_; rintro e w1 ⟨rfl, rfl⟩))
        refine bodyPost_ret (v := .tuple #[.agg #[.string ⟨#[]⟩, .bool false, .int .i64 0], .int .i64 0, .int .i64 (k), .int .i64 8]) (by simp [results, Tryd.results13, go_sem]) rfl ?_
        exact post_step HS.out (fun h => by first | (cases h; done) | omega) ((((Below.refl _ _).alloc (Nat.le_refl _) _).alloc (by simp) _))
      · go_enter Tryd.func13, Tryd.ntmps13
        go_wp2_with (first | (go_at_call 17; refine (HP.out _ _ (by omega)).mono ?_; rintro e w1 ⟨wd, rfl, hsz, hwd, rfl⟩; have hemp := isEmpty_of (s := wd) (by omega)) | (go_at_call 19; refine (HI.out wd hsz hwd _).mono ?_; rintro e w1 ⟨rfl, rfl⟩))
        refine bodyPost_ret (v := .tuple #[.agg #[.string ⟨#[]⟩, .bool false, .int .i64 0], .int .i64 0, .int .i64 (k + 1), .int .i64 8]) (by simp [results, Tryd.results13, go_sem]) rfl ?_
        exact post_step HS.out (fun h => by first | (cases h; done) | omega) ((((Below.refl _ _).alloc (Nat.le_refl _) _).alloc (by simp) _))
    · cases bh
      all_goals simp only [if_true, if_false, Bool.false_eq_true] at ha
      · go_enter Tryd.func13, Tryd.ntmps13
        go_wp2_with (first | (go_at_call 17; refine (HP.out _ _ (by omega)).mono ?_; rintro e w1 ⟨wd, rfl, hsz, hwd, rfl⟩; have hemp := isEmpty_of (s := wd) (by omega)) | (go_at_call 19; refine (HI.out wd hsz hwd _).mono ?_; rintro e w1 ⟨rfl, rfl⟩))
        refine bodyPost_ret (v := .tuple #[.agg #[.string wd, .bool false, .int .i64 0], .int .i64 (k + n), .int .i64 0, .int .i64 0]) (by simp [results, Tryd.results13, go_sem]) rfl ?_
        exact post_step HS.out (fun h => by first | (cases h; done) | omega) ((((Below.refl _ _).alloc (Nat.le_refl _) _).alloc (by simp) _))
      · go_enter Tryd.func13, Tryd.ntmps13
        go_wp2_with (first | (go_at_call 17; refine (HP.out _ _ (by omega)).mono ?_; rintro e w1 ⟨wd, rfl, hsz, hwd, rfl⟩; have hemp := isEmpty_of (s := wd) (by omega)) | (go_at_call 19; refine (HI.out wd hsz hwd _).mono ?_; rintro e w1 ⟨rfl, rfl⟩))
        refine bodyPost_ret (v := .tuple #[.agg #[.string wd, .bool false, .int .i64 0], .int .i64 (k + 1 + n), .int .i64 0, .int .i64 0]) (by simp [results, Tryd.results13, go_sem]) rfl ?_
        exact post_step HS.out (fun h => by first | (cases h; done) | omega) ((((Below.refl _ _).alloc (Nat.le_refl _) _).alloc (by simp) _))
end
/- A step, whatever stands there. -/
theorem step_any (s : ByteArray) (k : Nat) (bh : Bool) (w : World) (hs : s.size ≤ 140737488351232) (hk : k < s.size) (tp : TypeId) (pe : Value) (hv : w.cell? ⟨1, 0, none⟩ = some (.iface tp pe)) (hw1 : 1 < w.heap.size) :
    Calls Tryd.prog 13 #[.string s, .int .i64 k, .bool bh] w (StepPost (stepS s.data.toList k bh) w) := by
  by_cases hc : s[k].toNat = 91
  · have hc' : ((s[k].toNat : Int) == 91) = true := by rw [hc]; rfl
    have hle := span_le digB s.data.toList (k + 1)
    rw [len_list] at hle
    generalize hn : spanLen digB s.data.toList (k + 1) = n at hle
    by_cases h1 : k + 1 + n = s.size
    · exact step_idx4 s k bh w hs hk n hn hc' h1
    · by_cases h2 : n = 0 ∨ ((s.data.toList.getD (k + 1) 0).toNat = 48 ∧ n ≠ 1) ∨ (s.data.toList.getD (k + 1 + n) 0).toNat ≠ 93
      · exact step_idx3 s k bh w hs hk n hn hc' h1 h2
      · exact step_idxR s k bh w hs hk n hn tp pe hv hw1 hc' (by omega) (by omega) (fun h => h2 (.inr (.inl h))) (by omega)
  · have hc' : ((s[k].toNat : Int) == 91) = false := by rw [beq_eq_false_iff_ne]; omega
    exact step_name s k _ bh w hs hk rfl _ rfl hc'
end Go.Proofs.YtcgefpeachgchaaDoor
