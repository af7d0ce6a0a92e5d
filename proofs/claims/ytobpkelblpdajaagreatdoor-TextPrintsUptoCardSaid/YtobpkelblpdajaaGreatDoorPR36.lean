/- Walks: the document's Name. -/
import Derived.Test.YtobpkelblpdajaaGreatDoorPR03
set_option linter.unusedVariables false
set_option linter.unusedSimpArgs false
set_option linter.unusedSectionVars false
namespace Go.Proofs.YtobpkelblpdajaaGreatDoor
open Go Go.RowKit
set_option maxRecDepth 100000 in
set_option maxHeartbeats 1000000 in
theorem rname_any (s : ByteArray) (w : World) (hs : s.size ≤ 140737488351232) :
    Calls Tryz.prog 144 #[.string s] w fun e w' => e = .returned (.bool (nameB s.data.toList)) ∧ w = w' := by
  by_cases h0 : s.size = 0
  · have HF := Lib.hid (nameB_false_of_len (l := s.data.toList) (.inl (by rw [len_list]; omega)))
    go_enter Tryz.func144, Tryz.ntmps144
    go_wp2
    go_ret
    exact ⟨ret_bool HF.out.symm, rfl⟩
  by_cases h1 : 32 < s.size
  · have HF := Lib.hid (nameB_false_of_len (l := s.data.toList) (.inr (by rw [len_list]; omega)))
    clear h0
    go_enter Tryz.func144, Tryz.ntmps144
    go_wp2
    go_ret
    exact ⟨ret_bool HF.out.symm, rfl⟩
  have hp1 : 1 ≤ s.size := by omega
  have hp2 : s.size ≤ 32 := by omega
  clear h0 h1
  go_enter Tryz.func144, Tryz.ntmps144
  go_wp2
  go_loopw [3] (fun i wr => ∃ k : Nat, k ≤ s.size ∧ i = .int .i64 k ∧ okTo s.data.toList k ∧ w = wr) (fun i _ => s.size - (intOf i).toNat)
  case atStart => exact ⟨0, by omega, rfl, okTo_zero _, rfl⟩
  case round =>
    obtain ⟨k, hk, rfl, ho, rfl⟩ := hrel
    by_cases hlt : k < s.size
    · have hc := get_at s k hlt
      have HC : Hid (∀ c, s.data.toList[k]? = some c → c = s[k]) := Lib.hid (fun c h => by rw [hc] at h; injection h with h; exact h.symm)
      have HO := Lib.hid ho
      have H := Lib.hid hc
      clear hc ho
      rcases byte_cases s[k] with ⟨q1, q2⟩ | ⟨q1, q2⟩ | q1 | q1 | ⟨q1, q2⟩ | q1 | q1
      · go_wp2
        refine ⟨⟨k + 1, by omega, by go_num, okTo_succ HO.out H.out (inName_yes (by omega)) (fun _ => lowB_yes (by omega)), trivial⟩, ?_⟩
        simp [intOf]; omega
      · by_cases hk0 : k = 0
        · subst hk0
          have HF := Lib.hid (nameB_bad H.out (.inr ⟨rfl, lowB_no (by omega)⟩))
          go_wp2
          go_ret
          exact ⟨ret_bool HF.out.symm, rfl⟩
        · have hq : ((k : Int) == 0) = false := by rw [beq_eq_false_iff_ne]; omega
          have hn : ((s[k].toNat : Int) != 95) = true := by rw [bne_iff_ne]; omega
          go_wp2
          refine ⟨⟨k + 1, by omega, by go_num, okTo_succ HO.out H.out (inName_yes (by omega)) (fun e => absurd e hk0), trivial⟩, ?_⟩
          simp [intOf]; omega
      · by_cases hk0 : k = 0
        · subst hk0
          have HF := Lib.hid (nameB_bad H.out (.inr ⟨rfl, lowB_no (by omega)⟩))
          have hlo : (s[0].toNat : Int) < 97 := by omega
          go_wp2
          go_ret
          exact ⟨ret_bool HF.out.symm, rfl⟩
        · have hq : ((k : Int) == 0) = false := by rw [beq_eq_false_iff_ne]; omega
          have hn : ((s[k].toNat : Int) != 95) = false := by rw [q1]; rfl
          have hlo : (s[k].toNat : Int) < 97 := by omega
          have HI := Lib.hid (okTo_succ HO.out H.out (inName_yes (by omega)) (fun e => absurd e hk0))
          clear q1
          go_wp2
          refine ⟨⟨k + 1, by omega, by go_num, HI.out, trivial⟩, ?_⟩
          simp [intOf]; omega
      rotate_right
      · have HF := Lib.hid (nameB_bad H.out (.inl (inName_no (by omega))))
        have hn : ((s[k].toNat : Int) != 95) = true := by rw [bne_iff_ne]; omega
        have d1 : decide ((s[k].toNat : Int) ≤ 122) = false := by simp; omega
        have d2 : decide ((s[k].toNat : Int) < 48) = false := by simp; omega
        have d3 : decide ((57 : Int) < (s[k].toNat : Int)) = true := by simp; omega
        have d4 : decide ((97 : Int) ≤ (s[k].toNat : Int)) = true := by simp; omega
        have e1 : ¬ (s[k].toNat : Int) ≤ 122 := by omega
        have e2 : ¬ (s[k].toNat : Int) < 48 := by omega
        have e3 : (57 : Int) < (s[k].toNat : Int) := by omega
        have e4 : (97 : Int) ≤ (s[k].toNat : Int) := by omega
        by_cases hk0 : k = 0
        · subst hk0
          go_wp2
          go_ret
          exact ⟨ret_bool HF.out.symm, rfl⟩
        · have hq : ((k : Int) == 0) = false := by rw [beq_eq_false_iff_ne]; omega
          go_wp2
          go_ret
          exact ⟨ret_bool HF.out.symm, rfl⟩
      all_goals
        have HF := Lib.hid (nameB_bad H.out (.inl (inName_no (by omega))))
        have hn : ((s[k].toNat : Int) != 95) = true := by rw [bne_iff_ne]; omega
        by_cases hk0 : k = 0
        · subst hk0
          go_wp2
          go_ret
          exact ⟨ret_bool HF.out.symm, rfl⟩
        · have hq : ((k : Int) == 0) = false := by rw [beq_eq_false_iff_ne]; omega
          go_wp2
          go_ret
          exact ⟨ret_bool HF.out.symm, rfl⟩
    · obtain rfl : k = s.size := by omega
      have HF := Lib.hid (nameB_of_ok (l := s.data.toList) (by simpa using hp1) (by simpa using hp2) (by simpa using ho))
      clear ho
      go_wp2
      go_ret
      exact ⟨ret_bool HF.out.symm, rfl⟩
end Go.Proofs.YtobpkelblpdajaaGreatDoor
