/- Walks: the document's names. -/
import Derived.Test.YtcgefpeachgchaaDoorB10
namespace Go.Proofs.YtcgefpeachgchaaDoor
open Go Go.RowKit
set_option maxRecDepth 100000 in
set_option maxHeartbeats 400000 in
theorem refName_any (s : ByteArray) (w : World) (hs : s.size ≤ 140737488351232) :
    Calls Tryd.prog 10 #[.string s] w fun e w' => e = .returned (.bool (nameB s.data.toList)) ∧ w = w' := by
  by_cases h0 : s.size < 1 ∨ 32 < s.size
  · have hf : nameB s.data.toList = false := nameB_false_of_len (by rw [len_list]; exact h0)
    rw [hf]
    clear hf
    rcases h0 with h0 | h0
    · go_enter Tryd.func10, Tryd.ntmps10
      go_wp2
      go_ret
      exact ⟨rfl, rfl⟩
    · have h1 : 1 ≤ s.size := by omega
      go_enter Tryd.func10, Tryd.ntmps10
      go_wp2
      go_ret
      exact ⟨rfl, rfl⟩
  · have h1 : 1 ≤ s.size := by omega
    have h2 : s.size ≤ 32 := by omega
    clear h0
    go_enter Tryd.func10, Tryd.ntmps10
    go_wp2
    go_loop [3, 4] (fun i c => ∃ k : Nat, k ≤ s.size ∧ i = .int .i64 k ∧ okTo s.data.toList k) (fun i _ => s.size - (intOf i).toNat)
    case atStart => exact ⟨0, by omega, rfl, fun j hj => by omega⟩
    case round =>
      obtain ⟨k, hk, rfl, ho⟩ := hrel
      by_cases hlt : k < s.size
      · have H := Lib.hid (get_at s k hlt)
        have HO := Lib.hid ho
        clear ho
        by_cases hlo : 97 ≤ s[k].toNat ∧ s[k].toNat ≤ 122
        · obtain ⟨q1, q2⟩ := hlo
          go_wp2
          go_round
          case rel => exact ⟨k + 1, by omega, by go_num, okTo_succ HO.out H.out (inName_yes (by omega)) (fun e => lowB_yes (by omega))⟩
          case measure => simp [intOf]; omega
        · by_cases hk0 : k = 0
          · have hf := nameB_bad H.out (.inr ⟨hk0, lowB_no hlo⟩)
            have HF := Lib.hid hf
            clear hf
            have hk1 : ((k : Int) == 0) = true := by rw [hk0]; rfl
            have hlo' : s[k].toNat < 97 ∨ 122 < s[k].toNat := by omega
            clear hlo hk0
            rcases hlo' with q1 | q1
            · go_wp2
              go_ret
              exact ⟨ret_bool HF.out.symm, rfl⟩
            · have q2 : 97 ≤ s[k].toNat := by omega
              have qd : decide ((s[k].toNat : Int) ≤ 122) = false := decide_eq_false (by omega)
              go_wp2
              go_ret
              exact ⟨ret_bool HF.out.symm, rfl⟩
          · have hk1 : ((k : Int) == 0) = false := by rw [beq_eq_false_iff_ne]; omega
            rcases byte_cases s[k] with hh | ⟨q1, q2⟩ | q1 | q1 | ⟨q1, q2⟩ | q1 | q1
            · exact absurd hh hlo
            · clear hlo
              have HK := Lib.hid hk0
              clear hk0
              have qn : ((s[k].toNat : Int) != 95) = true := by rw [bne_iff_ne]; omega
              go_wp2
              go_round
              case rel => exact ⟨k + 1, by omega, by go_num, okTo_succ HO.out H.out (inName_yes (by omega)) (fun e => absurd e HK.out)⟩
              case measure => simp [intOf]; omega
            · clear hlo
              have HK := Lib.hid hk0
              clear hk0
              have qn : ((s[k].toNat : Int) != 95) = false := by rw [q1]; rfl
              have HC := Lib.hid q1
              have l1 : s[k].toNat < 97 := by omega
              clear q1
              go_wp2
              go_round
              case rel => exact ⟨k + 1, by omega, by go_num, okTo_succ HO.out H.out (inName_yes (by have := HC.out; omega)) (fun e => absurd e HK.out)⟩
              case measure => simp [intOf]; omega
            all_goals
              have hf : nameB s.data.toList = false := nameB_bad H.out (.inl (inName_no (by omega)))
              have HF := Lib.hid hf
              clear hf hk0
              have qn : ((s[k].toNat : Int) != 95) = true := by rw [bne_iff_ne]; omega
              clear hlo
              try have qd : decide ((s[k].toNat : Int) ≤ 122) = false := decide_eq_false (by omega)
              go_wp2
              go_ret
              exact ⟨ret_bool HF.out.symm, rfl⟩
      · obtain rfl : k = s.size := by omega
        have HF := Lib.hid (nameB_of_ok (l := s.data.toList) (by rw [len_list]; exact h1) (by rw [len_list]; exact h2) (by rw [len_list]; exact ho))
        clear ho
        go_wp2
        go_ret
        exact ⟨ret_bool HF.out.symm, rfl⟩
end Go.Proofs.YtcgefpeachgchaaDoor
