/- Walks: a step of a way's text. -/
import Derived.Test.YtcgefpeachgchaaDoorB2
namespace Go.Proofs.YtcgefpeachgchaaDoor
open Go Go.RowKit
def StepPost (r : SR) (w : World) (e : Ending) (w' : World) : Prop :=
  ∃ (nm : ByteArray) (ix nx pl : Int), e = .returned (.tuple #[.agg #[.string nm, .bool r.isAt, .int .i64 ix], .int .i64 nx, .int .i64 pl, .int .i64 r.err]) ∧ (r.err = 0 → nx = r.next) ∧ Below w.heap.size w w'
def sdec : ByteArray := ⟨#[48, 49, 50, 51, 52, 53, 54, 55, 56, 57]⟩
/- What 'span' hands back: so many bytes. -/
def Word (l : List UInt8) (at_ n : Nat) (wd : ByteArray) : Prop := wd.data.toList = (l.drop at_).take n
theorem Word.size {l : List UInt8} {a n : Nat} {wd : ByteArray} (h : Word l a n wd) (hn : n ≤ l.length - a) : wd.size = n := by
  rw [← len_list, show wd.data.toList = _ from h, List.length_take, List.length_drop]; omega
theorem Word.at_ {l : List UInt8} {a n j : Nat} {wd : ByteArray} (h : Word l a n wd) (hj : j < wd.size) : wd[j] = l.getD (a + j) 0 := by
  have h1 := get_at wd j hj
  rw [show wd.data.toList = _ from h] at h1
  have hlt : j < n := by
    have := (List.getElem?_eq_some_iff.1 h1).1
    simp at this; omega
  rw [List.getElem?_take, if_pos hlt, List.getElem?_drop] at h1
  rw [List.getD_eq_getElem?_getD, h1]; rfl
theorem span_of (p : UInt8 → Bool) (of : ByteArray) (hp : inB of.data.toList = p) (s : ByteArray) (at_ n : Nat) (a : Int) (w : World) (hs : s.size ≤ 140737488351232) (ha : at_ ≤ s.size) (hat : a = at_) (hn : spanLen p s.data.toList at_ = n) :
    Calls Tryd.prog 17 #[.string s, .int .i64 a, .string of] w fun e w' => ∃ wd : ByteArray, e = .returned (.string wd) ∧ wd.size = n ∧ Word s.data.toList at_ n wd ∧ w = w' := by
  subst hat
  refine (span_any s of at_ w hs ha).mono ?_
  rintro e w' ⟨h1, h2⟩
  have h3 := span_le p s.data.toList at_
  rw [hp, hn] at h1
  rw [hn] at h3
  have hw : Word s.data.toList at_ n (s.extract at_ (at_ + n)) := by
    show _ = _
    simp only [ByteArray.data_extract]; simp
  exact ⟨_, h1, hw.size h3, hw, h2⟩
theorem int_beq (a b : Nat) : ((a : Int) == (b : Int)) = decide (a = b) := by
  by_cases h : a = b
  · subst h; simp
  · rw [beq_eq_false_iff_ne.2 (by omega), decide_eq_false h]
theorem list_ne_one {s : ByteArray} {c : UInt8} (h : s.size ≠ 1) : (s.toList == [c]) = false := by
  rw [beq_eq_false_iff_ne, bytes_toList]
  intro e
  have := congrArg List.length e
  rw [len_list] at this; exact h this
theorem list_one {s : ByteArray} (h : s.size = 1) (h0 : ((s[0].toNat : Int) == 48) = true) : (s.toList == [48]) = true := by
  rw [beq_iff_eq, bytes_toList]
  have h1 := get_at s 0 (by omega)
  have h2 : s[0] = 48 := by
    have := eq_of_beq h0
    apply UInt8.toNat_inj.1
    exact Int.ofNat_inj.1 this
  rw [h2] at h1
  have h3 : s.data.toList.length = 1 := by rw [len_list]; exact h
  generalize s.data.toList = l at h1 h3
  match l, h3 with
  | [c], _ => simpa using h1
theorem isEmpty_nil {s : ByteArray} (h : s.size = 0) : s.toList.isEmpty = true := by
  rw [bytes_toList, ByteArray.size_eq_zero_iff.1 h]; rfl
theorem getD_at (s : ByteArray) (k : Nat) (h : k < s.size) : s.data.toList.getD k 0 = s[k] := by
  rw [List.getD_eq_getElem?_getD, get_at s k h]; rfl
theorem post_step {s : ByteArray} {k : Nat} {bh : Bool} {w w' : World} {er nx : Nat} {ia : Bool} {nm : ByteArray} {ix n pl : Int} (hS : stepS s.data.toList k bh = ⟨er, nx, ia⟩) (hn : er = 0 → n = nx) (hb : Below w.heap.size w w') :
    StepPost (stepS s.data.toList k bh) w (.returned (.tuple #[.agg #[.string nm, .bool ia, .int .i64 ix], .int .i64 n, .int .i64 pl, .int .i64 er])) w' := by
  rw [hS]; exact ⟨nm, ix, n, pl, rfl, hn, hb⟩
section
variable (s : ByteArray) (k : Nat) (bh : Bool) (w : World) (hs : s.size ≤ 140737488351232) (hk : k < s.size) (n : Nat) (hn : spanLen digB s.data.toList (k + 1) = n)
include hs hk hn
set_option maxRecDepth 100000 in
set_option maxHeartbeats 400000 in
theorem step_idx4 (hc : ((s[k].toNat : Int) == 91) = true) (h1 : k + 1 + n = s.size) :
    Calls Tryd.prog 13 #[.string s, .int .i64 k, .bool bh] w (StepPost (stepS s.data.toList k bh) w) := by
  have HS := Lib.hid (show stepS s.data.toList k bh = ⟨4, 0, false⟩ by
    unfold stepS; rw [getD_at s k hk, if_pos (by have := eq_of_beq hc; omega), hn, if_pos (by rw [len_list]; exact h1)])
  have HN := Lib.hid hn
  clear hn
  go_enter Tryd.func13, Tryd.ntmps13
  go_wp2_with (go_at_call 17; refine (span_of digB _ inB_dec s (k+1) n _ _ hs (by omega) (by omega) HN.out).mono ?_; rintro e w1 ⟨wd, rfl, hsz, hwd, rfl⟩)
  refine bodyPost_ret (v := .tuple #[.agg #[.string ⟨#[]⟩, .bool false, .int .i64 0], .int .i64 0, .int .i64 (k + 1 + n), .int .i64 4]) (by simp [results, Tryd.results13, go_sem]) rfl ?_
  exact post_step HS.out (fun h => by cases h) (((Below.refl _ _).alloc (Nat.le_refl _) _).alloc (by simp) _)
set_option maxRecDepth 100000 in
set_option maxHeartbeats 400000 in
theorem step_idx3 (hc : ((s[k].toNat : Int) == 91) = true) (h1 : ¬ k + 1 + n = s.size)
    (h2 : n = 0 ∨ ((s.data.toList.getD (k + 1) 0).toNat = 48 ∧ n ≠ 1) ∨ (s.data.toList.getD (k + 1 + n) 0).toNat ≠ 93) :
    Calls Tryd.prog 13 #[.string s, .int .i64 k, .bool bh] w (StepPost (stepS s.data.toList k bh) w) := by
  have hle := span_le digB s.data.toList (k + 1)
  rw [len_list, hn] at hle
  have HS := Lib.hid (show stepS s.data.toList k bh = ⟨3, 0, false⟩ by
    unfold stepS; rw [getD_at s k hk, if_pos (by have := eq_of_beq hc; omega), hn, if_neg (by rw [len_list]; exact h1), if_pos h2])
  have HN := Lib.hid hn
  clear hn
  have hne : (((k : Int) + 1 + n) == (s.size : Int)) = false := by rw [beq_eq_false_iff_ne]; omega
  by_cases h0 : n = 0
  · subst h0
    clear h2 h1
    go_enter Tryd.func13, Tryd.ntmps13
    go_wp2_with (go_at_call 17; refine (span_of digB _ inB_dec s (k+1) 0 _ _ hs (by omega) (by omega) HN.out).mono ?_; rintro e w1 ⟨wd, rfl, hsz, hwd, rfl⟩; have hemp := isEmpty_nil hsz)
    refine bodyPost_ret (v := .tuple #[.agg #[.string ⟨#[]⟩, .bool false, .int .i64 0], .int .i64 0, .int .i64 k, .int .i64 3]) (by simp [results, Tryd.results13, go_sem]) rfl ?_
    exact post_step HS.out (fun h => by cases h) (((Below.refl _ _).alloc (Nat.le_refl _) _).alloc (by simp) _)
  · have hend : k + 1 + n < s.size := by omega
    have h48 : ∀ wd : ByteArray, wd.size = n → Word s.data.toList (k + 1) n wd → ∀ h : 0 < wd.size, ((wd[0].toNat : Int) == 48) = decide ((s.data.toList.getD (k + 1) 0).toNat = 48) := by
      intro wd _ hw h
      rw [hw.at_ h]
      exact int_beq _ 48
    by_cases h3 : (s.data.toList.getD (k + 1) 0).toNat = 48 ∧ n ≠ 1
    · rw [decide_eq_true h3.1] at h48
      have hn1 := h3.2
      clear h2 h3
      have H4 := Lib.hid h48
      clear h48
      have hn0 : 0 < n := by omega
      go_enter Tryd.func13, Tryd.ntmps13
      go_wp2_with (go_at_call 17; refine (span_of digB _ inB_dec s (k+1) n _ _ hs (by omega) (by omega) HN.out).mono ?_; rintro e w1 ⟨wd, rfl, hsz, hwd, rfl⟩; have hemp := isEmpty_of (s := wd) (by omega); have hw0 := H4.out wd hsz hwd (by omega); have hwl : (wd.toList == [48]) = false := list_ne_one (by omega))
      refine bodyPost_ret (v := .tuple #[.agg #[.string ⟨#[]⟩, .bool false, .int .i64 0], .int .i64 0, .int .i64 k, .int .i64 3]) (by simp [results, Tryd.results13, go_sem]) rfl ?_
      exact post_step HS.out (fun h => by cases h) (((Below.refl _ _).alloc (Nat.le_refl _) _).alloc (by simp) _)
    · have h93 : ((s[k + 1 + n].toNat : Int) != 93) = true := by
        have : (s.data.toList.getD (k + 1 + n) 0).toNat ≠ 93 := by
          rcases h2 with h2 | h2 | h2
          · exact absurd h2 h0
          · exact absurd h2 h3
          · exact h2
        rw [getD_at s _ hend] at this
        rw [bne_iff_ne]; omega
      by_cases h4 : (s.data.toList.getD (k + 1) 0).toNat = 48
      · have hn1 : n = 1 := by
          by_cases e : n = 1
          · exact e
          · exact absurd ⟨h4, e⟩ h3
        subst hn1
        rw [decide_eq_true h4] at h48
        clear h2 h3 h4 h0
        have H4 := Lib.hid h48
        clear h48
        go_enter Tryd.func13, Tryd.ntmps13
        go_wp2_with (go_at_call 17; refine (span_of digB _ inB_dec s (k+1) 1 _ _ hs (by omega) (by omega) HN.out).mono ?_; rintro e w1 ⟨wd, rfl, hsz, hwd, rfl⟩; have hemp := isEmpty_of (s := wd) (by omega); have hw0 := H4.out wd hsz hwd (by omega); have hwl := list_one hsz hw0)
        refine bodyPost_ret (v := .tuple #[.agg #[.string ⟨#[]⟩, .bool false, .int .i64 0], .int .i64 0, .int .i64 k, .int .i64 3]) (by simp [results, Tryd.results13, go_sem]) rfl ?_
        exact post_step HS.out (fun h => by cases h) (((Below.refl _ _).alloc (Nat.le_refl _) _).alloc (by simp) _)
      · rw [decide_eq_false h4] at h48
        clear h2 h3 h4
        have H4 := Lib.hid h48
        clear h48
        have hn0 : 0 < n := by omega
        go_enter Tryd.func13, Tryd.ntmps13
        go_wp2_with (go_at_call 17; refine (span_of digB _ inB_dec s (k+1) n _ _ hs (by omega) (by omega) HN.out).mono ?_; rintro e w1 ⟨wd, rfl, hsz, hwd, rfl⟩; have hemp := isEmpty_of (s := wd) (by omega); have hw0 := H4.out wd hsz hwd (by omega))
        refine bodyPost_ret (v := .tuple #[.agg #[.string ⟨#[]⟩, .bool false, .int .i64 0], .int .i64 0, .int .i64 k, .int .i64 3]) (by simp [results, Tryd.results13, go_sem]) rfl ?_
        exact post_step HS.out (fun h => by cases h) (((Below.refl _ _).alloc (Nat.le_refl _) _).alloc (by simp) _)
end
end Go.Proofs.YtcgefpeachgchaaDoor
