/- Walks: the document's step of a way's text. -/
import Derived.Test.YtcgefpeachgchaaDoorB8
namespace Go.Proofs.YtcgefpeachgchaaDoor
open Go Go.RowKit
def RefPost (r : SR) (w : World) (e : Ending) (w' : World) : Prop :=
  ∃ (nm : ByteArray) (ix nx : Int), e = .returned (.tuple #[.agg #[.string nm, .bool r.isAt, .int .i64 ix], .int .i64 nx, .int .i64 r.err]) ∧ (r.err = 0 → nx = r.next) ∧ Below w.heap.size w w'
theorem post_ref {s : ByteArray} {k : Nat} {bh : Bool} {w w' : World} {er nx : Nat} {ia : Bool} {nm : ByteArray} {ix n : Int} (hS : stepS s.data.toList k bh = ⟨er, nx, ia⟩) (hn : er = 0 → n = nx) (hb : Below w.heap.size w w') :
    RefPost (stepS s.data.toList k bh) w (.returned (.tuple #[.agg #[.string nm, .bool ia, .int .i64 ix], .int .i64 n, .int .i64 er])) w' := by
  rw [hS]; exact ⟨nm, ix, n, rfl, hn, hb⟩
theorem ref_cells {w w1 : World} {a b c : Value} {T : TypeId} {o : Obj} (hb : Below (w.heap.size + 1) ((w.alloc (.cells #[a, b, c] T)).alloc o) w1) : NC w1 w.heap.size a b c := by
  refine NC.of (T := T) ?_
  rw [hb.block _ (by omega), Below.heap_alloc _ _ _ (by simp)]
  exact heap_alloc_new _ _
theorem ref_below {w w1 : World} {o p : Obj} (hb : Below (w.heap.size + 1) ((w.alloc o).alloc p) w1) : Below w.heap.size w w1 :=
  (((Below.refl w.heap.size w).alloc (Nat.le_refl _) _).alloc (by simp) _).trans (hb.mono (by omega))
theorem ref_set {w w1 : World} {a b c : Value} (hb : Below w.heap.size w w1) : Below w.heap.size w (((w1.setCell ⟨w.heap.size, 0, none⟩ a).setCell ⟨w.heap.size, 1, none⟩ b).setCell ⟨w.heap.size, 2, none⟩ c) :=
  ((hb.setCell (Nat.le_refl _) _).setCell (Nat.le_refl _) _).setCell (Nat.le_refl _) _
section
variable (s : ByteArray) (k : Nat) (bh : Bool) (w : World) (hs : s.size ≤ 140737488351232) (hk : k < s.size) (n : Nat) (hn : spanLen digB s.data.toList (k + 1) = n)
include hs hk hn
set_option maxRecDepth 100000 in
set_option maxHeartbeats 400000 in
theorem ref_idx4 (hc : ((s[k].toNat : Int) == 91) = true) (h1 : k + 1 + n = s.size) :
    Calls Tryd.prog 14 #[.string s, .int .i64 k] w (RefPost (stepS s.data.toList k bh) w) := by
  have HS := Lib.hid (show stepS s.data.toList k bh = ⟨4, 0, false⟩ by
    unfold stepS; rw [getD_at s k hk, if_pos (by have := eq_of_beq hc; omega), hn, if_pos (by rw [len_list]; exact h1)])
  have hrun := fun (W : World) b (hr : Rdr W b s (k + 1)) => Run_dec s b (k + 1) W hs (by omega) hr
  unfold RunPost at hrun
  rw [hn] at hrun
  have HRUN := Lib.hid hrun
  have HN := Lib.hid hn
  clear hrun hn
  have he : (((k + 1 + n : Nat) : Int) == (s.size : Int)) = true := by rw [h1]; simp
  clear h1
  go_enter Tryd.func14, Tryd.ntmps14
  go_wp2_with fail
  refine (HRUN.out _ _ ?hr).mono ?_
  case hr => 
    constructor
    · go_simp
    · go_simp
    · go_simp
  rintro e w1 ⟨wd, rfl, hsz, hwd, hb, ⟨r0, r1, f1⟩⟩
  have hz := hb.size
  simp only [World.size_alloc] at hz
  obtain ⟨a0, a1, a2, b0, b1, b2⟩ := ref_cells hb
  have hbel := ref_below hb
  clear hb
  go_wp2
  refine bodyPost_ret (v := .tuple #[.agg #[.string ⟨#[]⟩, .bool false, .int .i64 0], .int .i64 s.size, .int .i64 4]) (by simp [results, Tryd.results14, go_sem, a0, a1, a2, b0, b1, b2]) rfl ?_
  exact post_ref HS.out (fun h => by cases h) (ref_set hbel)
set_option maxRecDepth 100000 in
set_option maxHeartbeats 400000 in
theorem ref_idx3 (hc : ((s[k].toNat : Int) == 91) = true) (h1 : ¬ k + 1 + n = s.size)
    (h2 : n = 0 ∨ ((s.data.toList.getD (k + 1) 0).toNat = 48 ∧ n ≠ 1) ∨ (s.data.toList.getD (k + 1 + n) 0).toNat ≠ 93) :
    Calls Tryd.prog 14 #[.string s, .int .i64 k] w (RefPost (stepS s.data.toList k bh) w) := by
  have hle := span_le digB s.data.toList (k + 1)
  rw [len_list, hn] at hle
  have HS := Lib.hid (show stepS s.data.toList k bh = ⟨3, 0, false⟩ by
    unfold stepS; rw [getD_at s k hk, if_pos (by have := eq_of_beq hc; omega), hn, if_neg (by rw [len_list]; exact h1), if_pos h2])
  have hrun := fun (W : World) b (hr : Rdr W b s (k + 1)) => Run_dec s b (k + 1) W hs (by omega) hr
  unfold RunPost at hrun
  rw [hn] at hrun
  have HRUN := Lib.hid hrun
  have HN := Lib.hid hn
  clear hrun hn
  have he : (((k + 1 + n : Nat) : Int) == (s.size : Int)) = false := by rw [beq_eq_false_iff_ne]; omega
  by_cases h0 : n = 0
  · subst h0
    clear h2 h1
    go_enter Tryd.func14, Tryd.ntmps14
    go_wp2_with fail
    refine (HRUN.out _ _ ?hr).mono ?_
    case hr => 
      constructor
      · go_simp
      · go_simp
      · go_simp
    rintro e w1 ⟨wd, rfl, hsz, hwd, hb, ⟨r0, r1, f1⟩⟩
    have hz := hb.size
    simp only [World.size_alloc] at hz
    obtain ⟨a0, a1, a2, b0, b1, b2⟩ := ref_cells hb
    have hbel := ref_below hb
    clear hb
    have hemp := isEmpty_nil hsz
    go_wp2
    refine bodyPost_ret (v := .tuple #[.agg #[.string ⟨#[]⟩, .bool false, .int .i64 0], .int .i64 k, .int .i64 3]) (by simp [results, Tryd.results14, go_sem, a0, a1, a2, b0, b1, b2]) rfl ?_
    exact post_ref HS.out (fun h => by cases h) (ref_set hbel)
  · have hend : k + 1 + n < s.size := by omega
    have h48 : ∀ wd : ByteArray, wd.size = n → Word s.data.toList (k + 1) n wd → ∀ h : 0 < wd.size, ((wd[0].toNat : Int) == 48) = decide ((s.data.toList.getD (k + 1) 0).toNat = 48) := by
      intro wd _ hw h
      rw [hw.at_ h]
      exact int_beq _ 48
    by_cases h3 : (s.data.toList.getD (k + 1) 0).toNat = 48 ∧ n ≠ 1
    · rw [decide_eq_true h3.1] at h48
      have hn1 : 1 < n := by have := h3.2; omega
      clear h2 h3
      have H4 := Lib.hid h48
      clear h48
      go_enter Tryd.func14, Tryd.ntmps14
      go_wp2_with fail
      refine (HRUN.out _ _ ?hr).mono ?_
      case hr => 
        constructor
        · go_simp
        · go_simp
        · go_simp
      rintro e w1 ⟨wd, rfl, hsz, hwd, hb, ⟨r0, r1, f1⟩⟩
      have hz := hb.size
      simp only [World.size_alloc] at hz
      obtain ⟨a0, a1, a2, b0, b1, b2⟩ := ref_cells hb
      have hbel := ref_below hb
      clear hb
      have hemp := isEmpty_of (s := wd) (by omega)
      have hw0 := H4.out wd hsz hwd (by omega)
      go_wp2
      refine bodyPost_ret (v := .tuple #[.agg #[.string ⟨#[]⟩, .bool false, .int .i64 0], .int .i64 k, .int .i64 3]) (by simp [results, Tryd.results14, go_sem, a0, a1, a2, b0, b1, b2]) rfl ?_
      exact post_ref HS.out (fun h => by cases h) (ref_set hbel)
    · have h93 : ((s[k + 1 + n].toNat : Int) != 93) = true := by
        have : (s.data.toList.getD (k + 1 + n) 0).toNat ≠ 93 := by
          rcases h2 with h2 | h2 | h2
          · exact absurd h2 h0
          · exact absurd h2 h3
          · exact h2
        rw [getD_at s _ hend] at this
        rw [bne_iff_ne]; omega
      by_cases h4 : (s.data.toList.getD (k + 1) 0).toNat = 48
      · have hn1 : n = 1 := by
          by_cases e : n = 1
          · exact e
          · exact absurd ⟨h4, e⟩ h3
        subst hn1
        rw [decide_eq_true h4] at h48
        clear h2 h3 h4 h0
        have H4 := Lib.hid h48
        clear h48
        go_enter Tryd.func14, Tryd.ntmps14
        go_wp2_with fail
        refine (HRUN.out _ _ ?hr).mono ?_
        case hr => 
          constructor
          · go_simp
          · go_simp
          · go_simp
        rintro e w1 ⟨wd, rfl, hsz, hwd, hb, ⟨r0, r1, f1⟩⟩
        have hz := hb.size
        simp only [World.size_alloc] at hz
        obtain ⟨a0, a1, a2, b0, b1, b2⟩ := ref_cells hb
        have hbel := ref_below hb
        clear hb
        have hemp := isEmpty_of (s := wd) (by omega)
        have hw0 := H4.out wd hsz hwd (by omega)
        go_wp2
        refine bodyPost_ret (v := .tuple #[.agg #[.string ⟨#[]⟩, .bool false, .int .i64 0], .int .i64 k, .int .i64 3]) (by simp [results, Tryd.results14, go_sem, a0, a1, a2, b0, b1, b2]) rfl ?_
        exact post_ref HS.out (fun h => by cases h) (ref_set hbel)
      · rw [decide_eq_false h4] at h48
        clear h2 h3 h4
        have H4 := Lib.hid h48
        clear h48
        have hn0 : 0 < n := by omega
        go_enter Tryd.func14, Tryd.ntmps14
        go_wp2_with fail
        refine (HRUN.out _ _ ?hr).mono ?_
        case hr => 
          constructor
          · go_simp
          · go_simp
          · go_simp
        rintro e w1 ⟨wd, rfl, hsz, hwd, hb, ⟨r0, r1, f1⟩⟩
        have hz := hb.size
        simp only [World.size_alloc] at hz
        obtain ⟨a0, a1, a2, b0, b1, b2⟩ := ref_cells hb
        have hbel := ref_below hb
        clear hb
        have hemp := isEmpty_of (s := wd) (by omega)
        have hw0 := H4.out wd hsz hwd (by omega)
        go_wp2
        refine bodyPost_ret (v := .tuple #[.agg #[.string ⟨#[]⟩, .bool false, .int .i64 0], .int .i64 k, .int .i64 3]) (by simp [results, Tryd.results14, go_sem, a0, a1, a2, b0, b1, b2]) rfl ?_
        exact post_ref HS.out (fun h => by cases h) (ref_set hbel)
end
end Go.Proofs.YtcgefpeachgchaaDoor
