/- Walks: value.name. -/
import Derived.Test.YtobpkelblpdajaaGreatDoorNL02
set_option linter.unusedVariables false
set_option linter.unusedSimpArgs false
set_option linter.unusedSectionVars false
namespace Go.Proofs.YtobpkelblpdajaaGreatDoor
open Go Go.RowKit
set_option maxRecDepth 100000 in
set_option maxHeartbeats 400000 in
theorem name_loop (s : ByteArray) (w : World) (h1 : 1 ≤ s.size) (h2 : s.size ≤ 32) (hl : 97 ≤ s[0].toNat ∧ s[0].toNat ≤ 122) :
    Calls Tryz.prog 206 #[.string s] w fun e w' => e = .returned (.bool (nameB s.data.toList)) ∧ Below w.heap.size w w' := by
  have he : s.toList.isEmpty = false := isEmpty_of h1
  obtain ⟨g1, g2⟩ := hl
  have kc := fun (w : World) => Lib.run_convert_string_bytes (P := Tryz.prog) w 9 23 5 s Tryz.underlying9 Tryz.underlying23 Tryz.underlying5
  go_enter Tryz.func206, Tryz.ntmps206
  go_wp2
  clear kc
  have hbel := bytes_below w 5 s
  have hz := Lib.hid (rfl : s[0] = s[0])
  go_loop [4, 25] (fun _ i => ∃ k : Nat, k ≤ s.size ∧ i = .int .i64 k ∧ okTo s.data.toList k) (fun _ i => s.size - (intOf i).toNat)
  case atStart => exact ⟨0, by omega, rfl, okTo_zero _⟩
  case round =>
    obtain ⟨k, hk, rfl, ho⟩ := hrel
    by_cases hlt : k < s.size
    · obtain ⟨c, hc⟩ : ∃ c, s.data.toList[k]? = some c := ⟨_, List.getElem?_eq_getElem (by simpa using hlt)⟩
      have hcell := Lib.bytesWorld_cell w 5 s k hlt
      rw [List.getD_eq_getElem?_getD, hc, Option.getD_some] at hcell
      have H := Lib.hid hc
      have HO := Lib.hid ho
      clear hc ho
      rcases byte_cases c with ⟨q1, q2⟩ | ⟨q1, q2⟩ | q1 | q1 | ⟨q1, q2⟩ | q1 | q1
      · go_wp2
        go_round
        case rel => exact ⟨k + 1, by omega, by go_num, okTo_succ HO.out H.out (inName_yes (by omega)) (fun _ => lowB_yes (by omega))⟩
        case measure => simp [intOf]; omega
      · have hk0 : k ≠ 0 := fun e => by
          subst e
          have hcs := zero_of (rfl : s[0] = s[0]) H.out
          have hct := congrArg UInt8.toNat hcs
          omega
        go_wp2
        go_round
        case rel => exact ⟨k + 1, by omega, by go_num, okTo_succ HO.out H.out (inName_yes (by omega)) (fun e => absurd e hk0)⟩
        case measure => simp [intOf]; omega
      · have hk0 : k ≠ 0 := fun e => by
          subst e
          have hcs := zero_of (rfl : s[0] = s[0]) H.out
          have hct := congrArg UInt8.toNat hcs
          omega
        have HC := Lib.hid q1
        go_wp2
        go_round
        case rel => exact ⟨k + 1, by omega, by go_num, okTo_succ HO.out H.out (inName_yes (by have := HC.out; omega)) (fun e => absurd e hk0)⟩
        case measure => simp [intOf]; omega
      all_goals
        have hf : nameB s.data.toList = false := nameB_bad H.out (.inl (inName_no (by omega)))
        have HF := Lib.hid hf
        clear hf
        have qn : ((c.toNat : Int) != 95) = true := by rw [bne_iff_ne]; omega
        go_wp2
        go_ret
        exact ⟨ret_bool HF.out.symm, hbel⟩
    · obtain rfl : k = s.size := by omega
      have HF := Lib.hid (nameB_of_ok (l := s.data.toList) (by simpa using h1) (by simpa using h2) (by simpa using ho))
      clear ho
      go_wp2
      go_ret
      exact ⟨ret_bool HF.out.symm, hbel⟩
set_option maxRecDepth 100000 in
set_option maxHeartbeats 400000 in
theorem name_any (s : ByteArray) (w : World) (hs : s.size ≤ 140737488351232) :
    Calls Tryz.prog 206 #[.string s] w fun e w' => e = .returned (.bool (nameB s.data.toList)) ∧ Below w.heap.size w w' := by
  by_cases h0 : s.size = 0
  · have he := isEmpty_nil h0
    have HF := Lib.hid (nameB_false_of_len (l := s.data.toList) (.inl (by rw [len_list]; omega)))
    clear h0
    go_enter Tryz.func206, Tryz.ntmps206
    go_wp2
    go_ret
    exact ⟨ret_bool HF.out.symm, Below.refl _ _⟩
  have hpos : 0 < s.size := by omega
  have he := isEmpty_of (s := s) (by omega)
  by_cases h1 : 32 < s.size
  · have HF := Lib.hid (nameB_false_of_len (l := s.data.toList) (.inr (by rw [len_list]; omega)))
    clear h0
    go_enter Tryz.func206, Tryz.ntmps206
    go_wp2
    go_ret
    exact ⟨ret_bool HF.out.symm, Below.refl _ _⟩
  have h2 : s.size ≤ 32 := by omega
  by_cases hl : 97 ≤ s[0].toNat ∧ s[0].toNat ≤ 122
  · exact name_loop s w (by omega) h2 hl
  have HF := Lib.hid (nameB_bad (get_at s 0 hpos) (.inr ⟨rfl, lowB_no hl⟩))
  have hl' : s[0].toNat < 97 ∨ 122 < s[0].toNat := by omega
  clear hl h0 h1
  rcases hl' with q1 | q1
  · go_enter Tryz.func206, Tryz.ntmps206
    go_wp2
    go_ret
    exact ⟨ret_bool HF.out.symm, Below.refl _ _⟩
  · have q2 : 97 ≤ s[0].toNat := by omega
    go_enter Tryz.func206, Tryz.ntmps206
    go_wp2
    go_ret
    exact ⟨ret_bool HF.out.symm, Below.refl _ _⟩
end Go.Proofs.YtobpkelblpdajaaGreatDoor
