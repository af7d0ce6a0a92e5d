/- Walks: value.name. -/
import Derived.Test.YtobpkelblpdajaaGreatDoorPR02
set_option linter.unusedVariables false
set_option linter.unusedSimpArgs false
set_option linter.unusedSectionVars false
namespace Go.Proofs.YtobpkelblpdajaaGreatDoor
open Go Go.RowKit
set_option maxRecDepth 100000 in
set_option maxHeartbeats 400000 in
theorem name_loop (s : ByteArray) (w : World) (h1 : 1 ≤ s.size) (h2 : s.size ≤ 32) (hl : 97 ≤ s[0].toNat ∧ s[0].toNat ≤ 122) :
    Calls Tryz.prog 206 #[.string s] w fun e w' => e = .returned (.bool (nameB s.data.toList)) ∧ Below w.heap.size w w' := by
  have he : s.toList.isEmpty = false := isEmpty_of h1
  obtain ⟨g1, g2⟩ := hl
  have kc := fun (w : World) => Lib.run_convert_string_bytes (P := Tryz.prog) w 9 23 5 s Tryz.underlying9 Tryz.underlying23 Tryz.underlying5
  go_enter Tryz.func206, Tryz.ntmps206
  go_wp2
  clear kc
  have hbel := bytes_below w 5 s
  have hz := Lib.hid (rfl : s[0] = s[0])
  go_loop [4, 25] (fun _ i => ∃ k : Nat, k ≤ s.size ∧ i = .int .i64 k ∧ okTo s.data.toList k) (fun _ i => s.size - (intOf i).toNat)
  case atStart => exact ⟨0, by omega, rfl, okTo_zero _⟩
  case round =>
    obtain ⟨k, hk, rfl, ho⟩ := hrel
    by_cases hlt : k < s.size
    · obtain ⟨c, hc⟩ : ∃ c, s.data.toList[k]? = some c := ⟨_, List.getElem?_eq_getElem (by simpa using hlt)⟩
      have hcell := Lib.bytesWorld_cell w 5 s k hlt
      rw [List.getD_eq_getElem?_getD, hc, Option.getD_some] at hcell
      have H := Lib.hid hc
      have HO := Lib.hid ho
      clear hc ho
      rcases byte_cases c with ⟨q1, q2⟩ | ⟨q1, q2⟩ | q1 | q1 | ⟨q1, q2⟩ | q1 | q1
      · go_wp2
        go_round
        case rel => exact ⟨k + 1, by omega, by go_num, okTo_succ HO.out H.out (inName_yes (by omega)) (fun _ => lowB_yes (by omega))⟩
        case measure => simp [intOf]; omega
      · have hk0 : k ≠ 0 := fun e => by
          subst e
          have hcs := zero_of (rfl : s[0] = s[0]) H.out
          have hct := congrArg UInt8.toNat hcs
          omega
        go_wp2
        go_round
        case rel => exact ⟨k + 1, by omega, by go_num, okTo_succ HO.out H.out (inName_yes (by omega)) (fun e => absurd e hk0)⟩
        case measure => simp [intOf]; omega
      · have hk0 : k ≠ 0 := fun e => by
          subst e
          have hcs := zero_of (rfl : s[0] = s[0]) H.out
          have hct := congrArg UInt8.toNat hcs
          omega
        have HC := Lib.hid q1
        go_wp2
        go_round
        case rel => exact ⟨k + 1, by omega, by go_num, okTo_succ HO.out H.out (inName_yes (by have := HC.out; omega)) (fun e => absurd e hk0)⟩
        case measure => simp [intOf]; omega
      all_goals
        have hf : nameB s.data.toList = false := nameB_bad H.out (.inl (inName_no (by omega)))
        have HF := Lib.hid hf
        clear hf
        have qn : ((c.toNat : Int) != 95) = true := by rw [bne_iff_ne]; omega
        go_wp2
        go_ret
        exact ⟨ret_bool HF.out.symm, hbel⟩
    · obtain rfl : k = s.size := by omega
      have HF := Lib.hid (nameB_of_ok (l := s.data.toList) (by simpa using h1) (by simpa using h2) (by simpa using ho))
      clear ho
      go_wp2
      go_ret
      exact ⟨ret_bool HF.out.symm, hbel⟩
set_option maxRecDepth 100000 in
set_option maxHeartbeats 400000 in
theorem name_any (s : ByteArray) (w : World) (hs : s.size ≤ 140737488351232) :
    Calls Tryz.prog 206 #[.string s] w fun e w' => e = .returned (.bool (nameB s.data.toList)) ∧ Below w.heap.size w w' := by
  by_cases h0 : s.size = 0
  · have he := isEmpty_nil h0
    have HF := Lib.hid (nameB_false_of_len (l := s.data.toList) (.inl (by rw [len_list]; omega)))
    clear h0
    go_enter Tryz.func206, Tryz.ntmps206
    go_wp2
    go_ret
    exact ⟨ret_bool HF.out.symm, Below.refl _ _⟩
  have hpos : 0 < s.size := by omega
  have he := isEmpty_of (s := s) (by omega)
  by_cases h1 : 32 < s.size
  · have HF := Lib.hid (nameB_false_of_len (l := s.data.toList) (.inr (by rw [len_list]; omega)))
    clear h0
    go_enter Tryz.func206, Tryz.ntmps206
    go_wp2
    go_ret
    exact ⟨ret_bool HF.out.symm, Below.refl _ _⟩
  have h2 : s.size ≤ 32 := by omega
  by_cases hl : 97 ≤ s[0].toNat ∧ s[0].toNat ≤ 122
  · exact name_loop s w (by omega) h2 hl
  have HF := Lib.hid (nameB_bad (get_at s 0 hpos) (.inr ⟨rfl, lowB_no hl⟩))
  have hl' : s[0].toNat < 97 ∨ 122 < s[0].toNat := by omega
  clear hl h0 h1
  rcases hl' with q1 | q1
  · go_enter Tryz.func206, Tryz.ntmps206
    go_wp2
    go_ret
    exact ⟨ret_bool HF.out.symm, Below.refl _ _⟩
  · have q2 : 97 ≤ s[0].toNat := by omega
    go_enter Tryz.func206, Tryz.ntmps206
    go_wp2
    go_ret
    exact ⟨ret_bool HF.out.symm, Below.refl _ _⟩
end Go.Proofs.YtobpkelblpdajaaGreatDoor
/- How the walk asks an interface for a type. -/
namespace Go.Proofs.YtobpkelblpdajaaGreatDoor
open Go Go.RowKit
section
variable {P : Program}
theorem run_ta_no (w : World) {t A X : TypeId} {x z : Value} {u : TypeDesc} (hu : P.underlying A = some u) (hi : ∀ ms, u ≠ .interface ms) (hz : (zeroValue A).run P w = .ok z w) (h : t ≠ A) :
    (Instr.typeAssert (.iface t x) X A true).run P w = .ok (.tuple #[z, .bool false]) w := by
  unfold Instr.typeAssert
  cases u <;> simp [run_underlying hu, h, hz, Result.andThen] <;> exact absurd rfl (hi _)
theorem run_ta_yes (w : World) {A X : TypeId} {x : Value} {u : TypeDesc} (hu : P.underlying A = some u) (hi : ∀ ms, u ≠ .interface ms) :
    (Instr.typeAssert (.iface A x) X A true).run P w = .ok (.tuple #[x, .bool true]) w := by
  unfold Instr.typeAssert
  cases u <;> simp [run_underlying hu, Result.andThen] <;> exact absurd rfl (hi _)
theorem run_ta_nil (w : World) {A X : TypeId} {z : Value} {u : TypeDesc} (hu : P.underlying A = some u) (hi : ∀ ms, u ≠ .interface ms) (hz : (zeroValue A).run P w = .ok z w) :
    (Instr.typeAssert .nilIface X A true).run P w = .ok (.tuple #[z, .bool false]) w := by
  unfold Instr.typeAssert
  cases u <;> simp [run_underlying hu, hz, Result.andThen] <;> exact absurd rfl (hi _)
end
section
variable (w : World) (t X : TypeId) (x : Value)
theorem ta_no_bool (h : t ≠ 4) : (Instr.typeAssert (.iface t x) X 4 true).run Tryz.prog w = .ok (.tuple #[.bool false, .bool false]) w := run_ta_no w Tryz.underlying4 (fun _ h => by cases h) (by kernel_rfl) h
theorem ta_yes_bool : (Instr.typeAssert (.iface 4 x) X 4 true).run Tryz.prog w = .ok (.tuple #[x, .bool true]) w := run_ta_yes w Tryz.underlying4 (fun _ h => by cases h)
theorem ta_nil_bool : (Instr.typeAssert .nilIface X 4 true).run Tryz.prog w = .ok (.tuple #[.bool false, .bool false]) w := run_ta_nil w Tryz.underlying4 (fun _ h => by cases h) (by kernel_rfl)
theorem ta_no_int64 (h : t ≠ 2) : (Instr.typeAssert (.iface t x) X 2 true).run Tryz.prog w = .ok (.tuple #[.int .i64 0, .bool false]) w := run_ta_no w Tryz.underlying2 (fun _ h => by cases h) (by kernel_rfl) h
theorem ta_yes_int64 : (Instr.typeAssert (.iface 2 x) X 2 true).run Tryz.prog w = .ok (.tuple #[x, .bool true]) w := run_ta_yes w Tryz.underlying2 (fun _ h => by cases h)
theorem ta_nil_int64 : (Instr.typeAssert .nilIface X 2 true).run Tryz.prog w = .ok (.tuple #[.int .i64 0, .bool false]) w := run_ta_nil w Tryz.underlying2 (fun _ h => by cases h) (by kernel_rfl)
theorem ta_no_flt (h : t ≠ 22) : (Instr.typeAssert (.iface t x) X 22 true).run Tryz.prog w = .ok (.tuple #[.float .f64 0, .bool false]) w := run_ta_no w Tryz.underlying22 (fun _ h => by cases h) (by kernel_rfl) h
theorem ta_yes_flt : (Instr.typeAssert (.iface 22 x) X 22 true).run Tryz.prog w = .ok (.tuple #[x, .bool true]) w := run_ta_yes w Tryz.underlying22 (fun _ h => by cases h)
theorem ta_nil_flt : (Instr.typeAssert .nilIface X 22 true).run Tryz.prog w = .ok (.tuple #[.float .f64 0, .bool false]) w := run_ta_nil w Tryz.underlying22 (fun _ h => by cases h) (by kernel_rfl)
theorem ta_no_str (h : t ≠ 9) : (Instr.typeAssert (.iface t x) X 9 true).run Tryz.prog w = .ok (.tuple #[.string ⟨#[]⟩, .bool false]) w := run_ta_no w Tryz.underlying9 (fun _ h => by cases h) (by kernel_rfl) h
theorem ta_yes_str : (Instr.typeAssert (.iface 9 x) X 9 true).run Tryz.prog w = .ok (.tuple #[x, .bool true]) w := run_ta_yes w Tryz.underlying9 (fun _ h => by cases h)
theorem ta_nil_str : (Instr.typeAssert .nilIface X 9 true).run Tryz.prog w = .ok (.tuple #[.string ⟨#[]⟩, .bool false]) w := run_ta_nil w Tryz.underlying9 (fun _ h => by cases h) (by kernel_rfl)
theorem ta_no_byt (h : t ≠ 23) : (Instr.typeAssert (.iface t x) X 23 true).run Tryz.prog w = .ok (.tuple #[.slice none 0 0, .bool false]) w := run_ta_no w Tryz.underlying23 (fun _ h => by cases h) (by kernel_rfl) h
theorem ta_yes_byt : (Instr.typeAssert (.iface 23 x) X 23 true).run Tryz.prog w = .ok (.tuple #[x, .bool true]) w := run_ta_yes w Tryz.underlying23 (fun _ h => by cases h)
theorem ta_nil_byt : (Instr.typeAssert .nilIface X 23 true).run Tryz.prog w = .ok (.tuple #[.slice none 0 0, .bool false]) w := run_ta_nil w Tryz.underlying23 (fun _ h => by cases h) (by kernel_rfl)
theorem ta_no_ref (h : t ≠ 25) : (Instr.typeAssert (.iface t x) X 25 true).run Tryz.prog w = .ok (.tuple #[.int .u64 0, .bool false]) w := run_ta_no w Tryz.underlying25 (fun _ h => by cases h) (by kernel_rfl) h
theorem ta_yes_ref : (Instr.typeAssert (.iface 25 x) X 25 true).run Tryz.prog w = .ok (.tuple #[x, .bool true]) w := run_ta_yes w Tryz.underlying25 (fun _ h => by cases h)
theorem ta_nil_ref : (Instr.typeAssert .nilIface X 25 true).run Tryz.prog w = .ok (.tuple #[.int .u64 0, .bool false]) w := run_ta_nil w Tryz.underlying25 (fun _ h => by cases h) (by kernel_rfl)
theorem ta_no_lst (h : t ≠ 43) : (Instr.typeAssert (.iface t x) X 43 true).run Tryz.prog w = .ok (.tuple #[.slice none 0 0, .bool false]) w := run_ta_no w Tryz.underlying43 (fun _ h => by cases h) (by kernel_rfl) h
theorem ta_yes_lst : (Instr.typeAssert (.iface 43 x) X 43 true).run Tryz.prog w = .ok (.tuple #[x, .bool true]) w := run_ta_yes w Tryz.underlying43 (fun _ h => by cases h)
theorem ta_nil_lst : (Instr.typeAssert .nilIface X 43 true).run Tryz.prog w = .ok (.tuple #[.slice none 0 0, .bool false]) w := run_ta_nil w Tryz.underlying43 (fun _ h => by cases h) (by kernel_rfl)
theorem ta_no_dct (h : t ≠ 41) : (Instr.typeAssert (.iface t x) X 41 true).run Tryz.prog w = .ok (.tuple #[.slice none 0 0, .bool false]) w := run_ta_no w Tryz.underlying41 (fun _ h => by cases h) (by kernel_rfl) h
theorem ta_yes_dct : (Instr.typeAssert (.iface 41 x) X 41 true).run Tryz.prog w = .ok (.tuple #[x, .bool true]) w := run_ta_yes w Tryz.underlying41 (fun _ h => by cases h)
theorem ta_nil_dct : (Instr.typeAssert .nilIface X 41 true).run Tryz.prog w = .ok (.tuple #[.slice none 0 0, .bool false]) w := run_ta_nil w Tryz.underlying41 (fun _ h => by cases h) (by kernel_rfl)
theorem ta_no_rec (h : t ≠ 32) : (Instr.typeAssert (.iface t x) X 32 true).run Tryz.prog w = .ok (.tuple #[.pointer none, .bool false]) w := run_ta_no w Tryz.underlying32 (fun _ h => by cases h) (by kernel_rfl) h
theorem ta_yes_rec : (Instr.typeAssert (.iface 32 x) X 32 true).run Tryz.prog w = .ok (.tuple #[x, .bool true]) w := run_ta_yes w Tryz.underlying32 (fun _ h => by cases h)
theorem ta_nil_rec : (Instr.typeAssert .nilIface X 32 true).run Tryz.prog w = .ok (.tuple #[.pointer none, .bool false]) w := run_ta_nil w Tryz.underlying32 (fun _ h => by cases h) (by kernel_rfl)
end
end Go.Proofs.YtobpkelblpdajaaGreatDoor
/- Walks: value.kind. -/
namespace Go.Proofs.YtobpkelblpdajaaGreatDoor
open Go Go.RowKit
attribute [local go_sem] ta_no_bool ta_yes_bool ta_nil_bool ta_no_int64 ta_yes_int64 ta_nil_int64 ta_no_flt ta_yes_flt ta_nil_flt ta_no_str ta_yes_str ta_nil_str ta_no_byt ta_yes_byt ta_nil_byt ta_no_ref ta_yes_ref ta_nil_ref ta_no_lst ta_yes_lst ta_nil_lst ta_no_dct ta_yes_dct ta_nil_dct ta_no_rec ta_yes_rec ta_nil_rec
def kindV : V → Nat
  | .nil => 1
  | .bool _ => 2
  | .int _ => 3
  | .flt _ => 4
  | .text _ => 5
  | .bytes _ => 6
  | .ref _ => 7
  | .list _ => 8
  | .dict _ => 9
  | .record _ _ _ => 10
  | .nothing => 11
  | .alien => 0
theorem alienT_ne {t : TypeId} (h : alienT t = true) : t ≠ 4 ∧ t ≠ 2 ∧ t ≠ 22 ∧ t ≠ 9 ∧ t ≠ 23 ∧ t ≠ 25 ∧ t ≠ 43 ∧ t ≠ 41 ∧ t ≠ 32 := by
  simpa [alienT, and_assoc] using h
set_option maxRecDepth 100000 in
set_option maxHeartbeats 400000 in
theorem kind_nil (w : World) : Calls Tryz.prog 88 #[.nilIface] w fun e w' => e = .returned (.int .i64 1) ∧ w = w' := by
  go_enter Tryz.func88, Tryz.ntmps88
  go_wp2
  go_ret
  exact ⟨rfl, rfl⟩
set_option maxRecDepth 100000 in
set_option maxHeartbeats 400000 in
theorem kind_bool (b : Bool) (w : World) : Calls Tryz.prog 88 #[.iface 4 (.bool b)] w fun e w' => e = .returned (.int .i64 2) ∧ w = w' := by
  go_enter Tryz.func88, Tryz.ntmps88
  go_wp2
  go_ret
  exact ⟨rfl, rfl⟩
set_option maxRecDepth 100000 in
set_option maxHeartbeats 400000 in
theorem kind_int (n : Int) (w : World) : Calls Tryz.prog 88 #[.iface 2 (.int .i64 n)] w fun e w' => e = .returned (.int .i64 3) ∧ w = w' := by
  go_enter Tryz.func88, Tryz.ntmps88
  go_wp2
  go_ret
  exact ⟨rfl, rfl⟩
set_option maxRecDepth 100000 in
set_option maxHeartbeats 400000 in
theorem kind_flt (n : Nat) (w : World) : Calls Tryz.prog 88 #[.iface 22 (.float .f64 n)] w fun e w' => e = .returned (.int .i64 4) ∧ w = w' := by
  go_enter Tryz.func88, Tryz.ntmps88
  go_wp2
  go_ret
  exact ⟨rfl, rfl⟩
set_option maxRecDepth 100000 in
set_option maxHeartbeats 400000 in
theorem kind_text (s : ByteArray) (w : World) : Calls Tryz.prog 88 #[.iface 9 (.string s)] w fun e w' => e = .returned (.int .i64 5) ∧ w = w' := by
  go_enter Tryz.func88, Tryz.ntmps88
  go_wp2
  go_ret
  exact ⟨rfl, rfl⟩
set_option maxRecDepth 100000 in
set_option maxHeartbeats 400000 in
theorem kind_bytes (A : Option Addr) (n c : Nat) (w : World) : Calls Tryz.prog 88 #[.iface 23 (.slice A n c)] w fun e w' => e = .returned (.int .i64 6) ∧ w = w' := by
  go_enter Tryz.func88, Tryz.ntmps88
  go_wp2
  go_ret
  exact ⟨rfl, rfl⟩
set_option maxRecDepth 100000 in
set_option maxHeartbeats 400000 in
theorem kind_ref (n : Int) (w : World) : Calls Tryz.prog 88 #[.iface 25 (.int .u64 n)] w fun e w' => e = .returned (.int .i64 7) ∧ w = w' := by
  go_enter Tryz.func88, Tryz.ntmps88
  go_wp2
  go_ret
  exact ⟨rfl, rfl⟩
set_option maxRecDepth 100000 in
set_option maxHeartbeats 400000 in
theorem kind_list (A : Option Addr) (n c : Nat) (w : World) : Calls Tryz.prog 88 #[.iface 43 (.slice A n c)] w fun e w' => e = .returned (.int .i64 8) ∧ w = w' := by
  go_enter Tryz.func88, Tryz.ntmps88
  go_wp2
  go_ret
  exact ⟨rfl, rfl⟩
set_option maxRecDepth 100000 in
set_option maxHeartbeats 400000 in
theorem kind_dict (A : Option Addr) (n c : Nat) (w : World) : Calls Tryz.prog 88 #[.iface 41 (.slice A n c)] w fun e w' => e = .returned (.int .i64 9) ∧ w = w' := by
  go_enter Tryz.func88, Tryz.ntmps88
  go_wp2
  go_ret
  exact ⟨rfl, rfl⟩
set_option maxRecDepth 100000 in
set_option maxHeartbeats 400000 in
theorem kind_record (a : Addr) (w : World) : Calls Tryz.prog 88 #[.iface 32 (.pointer (some a))] w fun e w' => e = .returned (.int .i64 10) ∧ w = w' := by
  go_enter Tryz.func88, Tryz.ntmps88
  go_wp2
  go_ret
  exact ⟨rfl, rfl⟩
set_option maxRecDepth 100000 in
set_option maxHeartbeats 400000 in
theorem kind_nothing (w : World) : Calls Tryz.prog 88 #[.iface 32 (.pointer none)] w fun e w' => e = .returned (.int .i64 11) ∧ w = w' := by
  go_enter Tryz.func88, Tryz.ntmps88
  go_wp2
  go_ret
  exact ⟨rfl, rfl⟩
set_option maxRecDepth 100000 in
set_option maxHeartbeats 400000 in
theorem kind_alien (t : TypeId) (x : Value) (w : World) (ht : alienT t = true) : Calls Tryz.prog 88 #[.iface t x] w fun e w' => e = .returned (.int .i64 0) ∧ w = w' := by
  obtain ⟨a1, a2, a3, a4, a5, a6, a7, a8, a9⟩ := alienT_ne ht
  clear ht
  go_enter Tryz.func88, Tryz.ntmps88
  go_wp2
  go_ret
  exact ⟨rfl, rfl⟩
theorem kind_any (x : V) (v : Value) (B : Nat) (w : World) (h : Rd w B x v) : Calls Tryz.prog 88 #[v] w fun e w' => e = .returned (.int .i64 (kindV x)) ∧ w = w' := by
  cases x with
  | nil => subst h; exact kind_nil w
  | bool b => subst h; exact kind_bool b w
  | int n => obtain ⟨rfl, _⟩ := h; exact kind_int n w
  | flt n => subst h; exact kind_flt n w
  | text s => obtain ⟨rfl, _⟩ := h; exact kind_text s w
  | bytes l => obtain ⟨A, c, rfl, _⟩ := h; exact kind_bytes A _ c w
  | ref n => obtain ⟨rfl, _⟩ := h; exact kind_ref n w
  | list l => obtain ⟨A, c, rfl, _⟩ := h; exact kind_list A _ c w
  | dict l => obtain ⟨A, c, rfl, _⟩ := h; exact kind_dict A _ c w
  | record a b c => obtain ⟨b, rfl, _⟩ := h; exact kind_record _ w
  | nothing => subst h; exact kind_nothing w
  | alien => obtain ⟨t, x, rfl, ht⟩ := h; exact kind_alien t x w ht
end Go.Proofs.YtobpkelblpdajaaGreatDoor
