/- Walks: the document's reader: a run of bytes. -/
import Derived.Test.YtcgefpeachgchaaDoorB6
import Derived.Deep.LoopGhost
import Derived.Deep.QuietTactic
import Derived.BigQuiet
namespace Go.Proofs.YtcgefpeachgchaaDoor
open Go Go.RowKit
theorem fig_yes (c : Int) (w : World) (h : 48 ≤ c ∧ c ≤ 57) : Calls Tryd.prog 27 #[.int .u8 c] w fun e w' => e = .returned (.bool true) ∧ w = w' := by
  obtain ⟨h1, h2⟩ := h
  go_enter Tryd.func27, Tryd.ntmps27
  go_wp2
  go_ret
  exact ⟨rfl, rfl⟩
theorem fig_no (c : Int) (w : World) (h : c < 48 ∨ 57 < c) : Calls Tryd.prog 27 #[.int .u8 c] w fun e w' => e = .returned (.bool false) ∧ w = w' := by
  rcases h with h | h
  · go_enter Tryd.func27, Tryd.ntmps27
    go_wp2
    go_ret
    exact ⟨rfl, rfl⟩
  · have h1 : 48 ≤ c := by omega
    go_enter Tryd.func27, Tryd.ntmps27
    go_wp2
    go_ret
    exact ⟨ret_bool (decide_eq_false (by omega)), rfl⟩
theorem let_yes (c : Int) (w : World) (h : 97 ≤ c ∧ c ≤ 122) : Calls Tryd.prog 28 #[.int .u8 c] w fun e w' => e = .returned (.bool true) ∧ w = w' := by
  obtain ⟨h1, h2⟩ := h
  go_enter Tryd.func28, Tryd.ntmps28
  go_wp2
  go_ret
  exact ⟨rfl, rfl⟩
theorem let_no (c : Int) (w : World) (h : c < 97 ∨ 122 < c) : Calls Tryd.prog 28 #[.int .u8 c] w fun e w' => e = .returned (.bool false) ∧ w = w' := by
  rcases h with h | h
  · go_enter Tryd.func28, Tryd.ntmps28
    go_wp2
    go_ret
    exact ⟨rfl, rfl⟩
  · have h1 : 97 ≤ c := by omega
    go_enter Tryd.func28, Tryd.ntmps28
    go_wp2
    go_ret
    exact ⟨ret_bool (decide_eq_false (by omega)), rfl⟩
theorem below_drewN {B : Nat} {a w : World} (h : Below B a w) (n : Nat) : Below B a (w.drewN n) := ⟨h.os, h.tape, h.output, h.size, h.block⟩
/- A reader in a block of its own: its text, and where it stands. -/
structure Rdr (w : World) (b : Nat) (s : ByteArray) (k : Nat) : Prop where
  r0 : w.cell? ⟨b, 0, none⟩ = some (.string s)
  r1 : w.cell? ⟨b, 1, none⟩ = some (.int .i64 k)
  f1 : w.frozen? ⟨b, 1, none⟩ = false
def RunPost (p : UInt8 → Bool) (s : ByteArray) (b at_ : Nat) (w : World) (e : Ending) (w' : World) : Prop :=
  ∃ wd, e = .returned (.string wd) ∧ wd.size = spanLen p s.data.toList at_ ∧ Word s.data.toList at_ (spanLen p s.data.toList at_) wd ∧ Below b w w' ∧ Rdr w' b s (at_ + spanLen p s.data.toList at_)
theorem run_end {p : UInt8 → Bool} {s : ByteArray} {b at_ k : Nat} {w w' : World} (h1 : at_ ≤ k) (hk : k ≤ s.size) (hA : AllIn p s.data.toList at_ k) (hstop : k = s.data.toList.length ∨ ∃ c, s.data.toList[k]? = some c ∧ p c = false) (hb : Below b w w') (hr : Rdr w' b s k) :
    RunPost p s b at_ w (.returned (.string (s.extract at_ k))) w' := by
  have he := span_end h1 (by rw [len_list]; exact hk) hA hstop
  unfold RunPost
  rw [he]
  have hw : Word s.data.toList at_ (k - at_) (s.extract at_ k) := by
    show _ = _
    simp only [ByteArray.data_extract]; simp
  exact ⟨_, rfl, hw.size (by rw [len_list]; omega), hw, hb, by rw [show at_ + (k - at_) = k from by omega]; exact hr⟩
set_option maxRecDepth 100000 in
set_option maxHeartbeats 1000000 in
theorem Run_dec (s : ByteArray) (b at_ : Nat) (w : World) (hs : s.size ≤ 140737488351232) (ha : at_ ≤ s.size) (hr : Rdr w b s at_) :
    Calls Tryd.prog 20 #[.pointer (some ⟨b, 0, none⟩), .int .i64 2] w (RunPost digB s b at_ w) := by
  obtain ⟨r0, r1, f1⟩ := hr
  go_enter Tryd.func20, Tryd.ntmps20
  go_wp2
  go_loopg [] (s.size - at_) (fun g wr => ∃ k, at_ ≤ k ∧ k ≤ s.size ∧ g = s.size - k ∧ Hid (AllIn digB s.data.toList at_ k) ∧ Below b w wr ∧ Rdr wr b s k)
  case atStart => exact ⟨at_, Nat.le_refl _, ha, rfl, AllIn.self _ _ _, Below.refl _ _, ⟨r0, r1, f1⟩⟩
  case round =>
    clear r0 r1 f1
    obtain ⟨k, hk1, hk2, hg, HA, hb, ⟨r0, r1, f1⟩⟩ := hrel
    have HG := Lib.hid hg
    clear hg
    by_cases hlt : k < s.size
    · have H := Lib.hid (get_at s k hlt)
      by_cases hd : 48 ≤ (s[k].toNat : Int) ∧ (s[k].toNat : Int) ≤ 57
      · go_wp2
        go_quiet (fail)
        go_wp2
        go_quiet (fail)
        go_wp2_with (go_at_call 27; refine (fig_yes _ _ hd).mono ?_; rintro e w1 ⟨rfl, rfl⟩)
        go_roundg (s.size - (k + 1))
        case measure => rw [HG.out]; omega
        case rel => 
          refine ⟨k + 1, by omega, by omega, rfl, HA.out.snoc H.out (by simp only [digB, decide_eq_true_eq]; omega), ?_, ?_, ?_, ?_⟩
          · exact (below_drewN hb _).setCell (Nat.le_refl _) _
          · go_simp
          · go_simp
          · go_simp
      · have hd' : (s[k].toNat : Int) < 48 ∨ 57 < (s[k].toNat : Int) := by omega
        clear hd
        go_wp2
        go_quiet (fail)
        go_wp2
        go_quiet (fail)
        go_wp2_with (go_at_call 27; refine (fig_no _ _ hd').mono ?_; rintro e w1 ⟨rfl, rfl⟩)
        go_quiet (fail)
        go_wp2
        go_ret
        exact run_end hk1 hk2 HA.out (.inr ⟨_, H.out, by simp only [digB, decide_eq_false_iff_not]; omega⟩) (below_drewN (below_drewN hb _) _) ⟨r0, r1, f1⟩
    · go_wp2
      go_quiet (fail)
      go_wp2
      go_quiet (fail)
      go_wp2
      go_ret
      exact run_end hk1 hk2 HA.out (.inl (by rw [len_list]; omega)) (below_drewN (below_drewN hb _) _) ⟨r0, r1, f1⟩
set_option maxRecDepth 100000 in
set_option maxHeartbeats 1000000 in
theorem Run_name (s : ByteArray) (b at_ : Nat) (w : World) (hs : s.size ≤ 140737488351232) (ha : at_ ≤ s.size) (hr : Rdr w b s at_) :
    Calls Tryd.prog 20 #[.pointer (some ⟨b, 0, none⟩), .int .i64 0] w (RunPost inName s b at_ w) := by
  obtain ⟨r0, r1, f1⟩ := hr
  go_enter Tryd.func20, Tryd.ntmps20
  go_wp2
  go_loopg [] (s.size - at_) (fun g wr => ∃ k, at_ ≤ k ∧ k ≤ s.size ∧ g = s.size - k ∧ Hid (AllIn inName s.data.toList at_ k) ∧ Below b w wr ∧ Rdr wr b s k)
  case atStart => exact ⟨at_, Nat.le_refl _, ha, rfl, AllIn.self _ _ _, Below.refl _ _, ⟨r0, r1, f1⟩⟩
  case round =>
    clear r0 r1 f1
    obtain ⟨k, hk1, hk2, hg, HA, hb, ⟨r0, r1, f1⟩⟩ := hrel
    have HG := Lib.hid hg
    clear hg
    by_cases hlt : k < s.size
    · have H := Lib.hid (get_at s k hlt)
      rcases byte_cases s[k] with ⟨c1, c2⟩ | ⟨c1, c2⟩ | c1 | c1 | ⟨c1, c2⟩ | c1 | c1
      · have hx : 97 ≤ (s[k].toNat : Int) ∧ (s[k].toNat : Int) ≤ 122 := by omega
        go_wp2
        go_quiet (fail)
        go_wp2
        go_quiet (fail)
        go_wp2_with (first | (go_at_call 27; refine (fig_no _ _ (by omega)).mono ?_; rintro e w1 ⟨rfl, rfl⟩) | (go_at_call 28; refine (let_yes _ _ (by omega)).mono ?_; rintro e w1 ⟨rfl, rfl⟩))
        go_roundg (s.size - (k + 1))
        case measure => rw [HG.out]; omega
        case rel => 
          refine ⟨k + 1, by omega, by omega, rfl, HA.out.snoc H.out (inName_yes (by omega)), ?_, ?_, ?_, ?_⟩
          · exact (below_drewN hb _).setCell (Nat.le_refl _) _
          · go_simp
          · go_simp
          · go_simp
      · have hx : 48 ≤ (s[k].toNat : Int) ∧ (s[k].toNat : Int) ≤ 57 := by omega
        go_wp2
        go_quiet (fail)
        go_wp2
        go_quiet (fail)
        go_wp2_with (first | (go_at_call 27; refine (fig_yes _ _ (by omega)).mono ?_; rintro e w1 ⟨rfl, rfl⟩) | (go_at_call 28; refine (let_no _ _ (by omega)).mono ?_; rintro e w1 ⟨rfl, rfl⟩))
        go_roundg (s.size - (k + 1))
        case measure => rw [HG.out]; omega
        case rel => 
          refine ⟨k + 1, by omega, by omega, rfl, HA.out.snoc H.out (inName_yes (by omega)), ?_, ?_, ?_, ?_⟩
          · exact (below_drewN hb _).setCell (Nat.le_refl _) _
          · go_simp
          · go_simp
          · go_simp
      · have q95 : ((s[k].toNat : Int) == 95) = true := by rw [c1]; rfl
        have HC := Lib.hid c1
        have l1 : (57 : Int) < (s[k].toNat : Int) := by omega
        have l2 : (s[k].toNat : Int) < 97 := by omega
        clear c1
        go_wp2
        go_quiet (fail)
        go_wp2
        go_quiet (fail)
        go_wp2_with (first | (go_at_call 27; refine (fig_no _ _ (.inr l1)).mono ?_; rintro e w1 ⟨rfl, rfl⟩) | (go_at_call 28; refine (let_no _ _ (.inl l2)).mono ?_; rintro e w1 ⟨rfl, rfl⟩))
        go_roundg (s.size - (k + 1))
        case measure => rw [HG.out]; omega
        case rel => 
          refine ⟨k + 1, by omega, by omega, rfl, HA.out.snoc H.out (inName_yes (by have := HC.out; omega)), ?_, ?_, ?_, ?_⟩
          · exact (below_drewN hb _).setCell (Nat.le_refl _) _
          · go_simp
          · go_simp
          · go_simp
      all_goals
        have hno : inName s[k] = false := inName_no (by omega)
        have HNO := Lib.hid hno
        clear hno
        have q95 : ((s[k].toNat : Int) == 95) = false := by rw [beq_eq_false_iff_ne]; omega
        go_wp2
        go_quiet (fail)
        go_wp2
        go_quiet (fail)
        go_wp2_with (first | (go_at_call 27; refine (fig_no _ _ (by omega)).mono ?_; rintro e w1 ⟨rfl, rfl⟩) | (go_at_call 28; refine (let_no _ _ (by omega)).mono ?_; rintro e w1 ⟨rfl, rfl⟩))
        go_quiet (fail)
        go_wp2
        go_ret
        exact run_end hk1 hk2 HA.out (.inr ⟨_, H.out, HNO.out⟩) (below_drewN (below_drewN hb _) _) ⟨r0, r1, f1⟩
    · go_wp2
      go_quiet (fail)
      go_wp2
      go_quiet (fail)
      go_wp2
      go_ret
      exact run_end hk1 hk2 HA.out (.inl (by rw [len_list]; omega)) (below_drewN (below_drewN hb _) _) ⟨r0, r1, f1⟩
end Go.Proofs.YtcgefpeachgchaaDoor
