/- Walks: value.name. -/
import Derived.Test.YtbemeapjeipjlaaGreatDoorQL02
import Derived.Test.YtbemeapjeipjlaaGreatDoorQL01
set_option linter.unusedVariables false
set_option linter.unusedSimpArgs false
namespace Go.Proofs.YtbemeapjeipjlaaGreatDoor
open Go Go.RowKit
set_option maxRecDepth 100000 in
set_option maxHeartbeats 400000 in
theorem name_loop (s : ByteArray) (w : World) (h1 : 1 ≤ s.size) (h2 : s.size ≤ 32) (hl : 97 ≤ s[0].toNat ∧ s[0].toNat ≤ 122) :
    Calls Tryz.prog 142 #[.string s] w fun e w' => e = .returned (.bool (nameB s.data.toList)) ∧ Below w.heap.size w w' := by
  have he : s.toList.isEmpty = false := isEmpty_of h1
  obtain ⟨g1, g2⟩ := hl
  have kc := fun (w : World) => Lib.run_convert_string_bytes (P := Tryz.prog) w 9 24 5 s Tryz.underlying9 Tryz.underlying24 Tryz.underlying5
  go_enter Tryz.func142, Tryz.ntmps142
  go_wp2
  clear kc
  have hbel := bytes_below w 5 s
  have hz := Lib.hid (rfl : s[0] = s[0])
  go_loop [4, 25] (fun _ i => ∃ k : Nat, k ≤ s.size ∧ i = .int .i64 k ∧ okTo s.data.toList k) (fun _ i => s.size - (intOf i).toNat)
  case atStart => exact ⟨0, by omega, rfl, okTo_zero _⟩
  case round =>
    obtain ⟨k, hk, rfl, ho⟩ := hrel
    by_cases hlt : k < s.size
    · obtain ⟨c, hc⟩ : ∃ c, s.data.toList[k]? = some c := ⟨_, List.getElem?_eq_getElem (by simpa using hlt)⟩
      have hcell := Lib.bytesWorld_cell w 5 s k hlt
      rw [List.getD_eq_getElem?_getD, hc, Option.getD_some] at hcell
      have H := Lib.hid hc
      have HO := Lib.hid ho
      clear hc ho
      rcases byte_cases c with ⟨q1, q2⟩ | ⟨q1, q2⟩ | q1 | q1 | ⟨q1, q2⟩ | q1 | q1
      · go_wp2
        go_round
        case rel => exact ⟨k + 1, by omega, by go_num, okTo_succ HO.out H.out (inName_yes (by omega)) (fun _ => lowB_yes (by omega))⟩
        case measure => simp [intOf]; omega
      · have hk0 : k ≠ 0 := fun e => by
          subst e
          have hcs := zero_of (rfl : s[0] = s[0]) H.out
          have hct := congrArg UInt8.toNat hcs
          omega
        go_wp2
        go_round
        case rel => exact ⟨k + 1, by omega, by go_num, okTo_succ HO.out H.out (inName_yes (by omega)) (fun e => absurd e hk0)⟩
        case measure => simp [intOf]; omega
      · have hk0 : k ≠ 0 := fun e => by
          subst e
          have hcs := zero_of (rfl : s[0] = s[0]) H.out
          have hct := congrArg UInt8.toNat hcs
          omega
        have HC := Lib.hid q1
        go_wp2
        go_round
        case rel => exact ⟨k + 1, by omega, by go_num, okTo_succ HO.out H.out (inName_yes (by have := HC.out; omega)) (fun e => absurd e hk0)⟩
        case measure => simp [intOf]; omega
      all_goals
        have hf : nameB s.data.toList = false := nameB_bad H.out (.inl (inName_no (by omega)))
        have HF := Lib.hid hf
        clear hf
        have qn : ((c.toNat : Int) != 95) = true := by rw [bne_iff_ne]; omega
        go_wp2
        go_ret
        exact ⟨ret_bool HF.out.symm, hbel⟩
    · obtain rfl : k = s.size := by omega
      have HF := Lib.hid (nameB_of_ok (l := s.data.toList) (by simpa using h1) (by simpa using h2) (by simpa using ho))
      clear ho
      go_wp2
      go_ret
      exact ⟨ret_bool HF.out.symm, hbel⟩
set_option maxRecDepth 100000 in
set_option maxHeartbeats 400000 in
theorem name_any (s : ByteArray) (w : World) (hs : s.size ≤ 140737488351232) :
    Calls Tryz.prog 142 #[.string s] w fun e w' => e = .returned (.bool (nameB s.data.toList)) ∧ Below w.heap.size w w' := by
  by_cases h0 : s.size = 0
  · have he := isEmpty_nil h0
    have HF := Lib.hid (nameB_false_of_len (l := s.data.toList) (.inl (by rw [len_list]; omega)))
    clear h0
    go_enter Tryz.func142, Tryz.ntmps142
    go_wp2
    go_ret
    exact ⟨ret_bool HF.out.symm, Below.refl _ _⟩
  have hpos : 0 < s.size := by omega
  have he := isEmpty_of (s := s) (by omega)
  by_cases h1 : 32 < s.size
  · have HF := Lib.hid (nameB_false_of_len (l := s.data.toList) (.inr (by rw [len_list]; omega)))
    clear h0
    go_enter Tryz.func142, Tryz.ntmps142
    go_wp2
    go_ret
    exact ⟨ret_bool HF.out.symm, Below.refl _ _⟩
  have h2 : s.size ≤ 32 := by omega
  by_cases hl : 97 ≤ s[0].toNat ∧ s[0].toNat ≤ 122
  · exact name_loop s w (by omega) h2 hl
  have HF := Lib.hid (nameB_bad (get_at s 0 hpos) (.inr ⟨rfl, lowB_no hl⟩))
  have hl' : s[0].toNat < 97 ∨ 122 < s[0].toNat := by omega
  clear hl h0 h1
  rcases hl' with q1 | q1
  · go_enter Tryz.func142, Tryz.ntmps142
    go_wp2
    go_ret
    exact ⟨ret_bool HF.out.symm, Below.refl _ _⟩
  · have q2 : 97 ≤ s[0].toNat := by omega
    go_enter Tryz.func142, Tryz.ntmps142
    go_wp2
    go_ret
    exact ⟨ret_bool HF.out.symm, Below.refl _ _⟩
end Go.Proofs.YtbemeapjeipjlaaGreatDoor
/- How the walk asks an interface for a type. -/
namespace Go.Proofs.YtbemeapjeipjlaaGreatDoor
open Go Go.RowKit
section
variable {P : Program}
theorem run_ta_no (w : World) {t A X : TypeId} {x z : Value} {u : TypeDesc} (hu : P.underlying A = some u) (hi : ∀ ms, u ≠ .interface ms) (hz : (zeroValue A).run P w = .ok z w) (h : t ≠ A) :
    (Instr.typeAssert (.iface t x) X A true).run P w = .ok (.tuple #[z, .bool false]) w := by
  unfold Instr.typeAssert
  cases u <;> simp [run_underlying hu, h, hz, Result.andThen] <;> exact absurd rfl (hi _)
theorem run_ta_yes (w : World) {A X : TypeId} {x : Value} {u : TypeDesc} (hu : P.underlying A = some u) (hi : ∀ ms, u ≠ .interface ms) :
    (Instr.typeAssert (.iface A x) X A true).run P w = .ok (.tuple #[x, .bool true]) w := by
  unfold Instr.typeAssert
  cases u <;> simp [run_underlying hu, Result.andThen] <;> exact absurd rfl (hi _)
theorem run_ta_nil (w : World) {A X : TypeId} {z : Value} {u : TypeDesc} (hu : P.underlying A = some u) (hi : ∀ ms, u ≠ .interface ms) (hz : (zeroValue A).run P w = .ok z w) :
    (Instr.typeAssert .nilIface X A true).run P w = .ok (.tuple #[z, .bool false]) w := by
  unfold Instr.typeAssert
  cases u <;> simp [run_underlying hu, hz, Result.andThen] <;> exact absurd rfl (hi _)
end
section
variable (w : World) (t X : TypeId) (x : Value)
theorem ta_no_bool (h : t ≠ 4) : (Instr.typeAssert (.iface t x) X 4 true).run Tryz.prog w = .ok (.tuple #[.bool false, .bool false]) w := run_ta_no w Tryz.underlying4 (fun _ h => by cases h) (by kernel_rfl) h
theorem ta_yes_bool : (Instr.typeAssert (.iface 4 x) X 4 true).run Tryz.prog w = .ok (.tuple #[x, .bool true]) w := run_ta_yes w Tryz.underlying4 (fun _ h => by cases h)
theorem ta_nil_bool : (Instr.typeAssert .nilIface X 4 true).run Tryz.prog w = .ok (.tuple #[.bool false, .bool false]) w := run_ta_nil w Tryz.underlying4 (fun _ h => by cases h) (by kernel_rfl)
theorem ta_no_int64 (h : t ≠ 2) : (Instr.typeAssert (.iface t x) X 2 true).run Tryz.prog w = .ok (.tuple #[.int .i64 0, .bool false]) w := run_ta_no w Tryz.underlying2 (fun _ h => by cases h) (by kernel_rfl) h
theorem ta_yes_int64 : (Instr.typeAssert (.iface 2 x) X 2 true).run Tryz.prog w = .ok (.tuple #[x, .bool true]) w := run_ta_yes w Tryz.underlying2 (fun _ h => by cases h)
theorem ta_nil_int64 : (Instr.typeAssert .nilIface X 2 true).run Tryz.prog w = .ok (.tuple #[.int .i64 0, .bool false]) w := run_ta_nil w Tryz.underlying2 (fun _ h => by cases h) (by kernel_rfl)
theorem ta_no_flt (h : t ≠ 23) : (Instr.typeAssert (.iface t x) X 23 true).run Tryz.prog w = .ok (.tuple #[.float .f64 0, .bool false]) w := run_ta_no w Tryz.underlying23 (fun _ h => by cases h) (by kernel_rfl) h
theorem ta_yes_flt : (Instr.typeAssert (.iface 23 x) X 23 true).run Tryz.prog w = .ok (.tuple #[x, .bool true]) w := run_ta_yes w Tryz.underlying23 (fun _ h => by cases h)
theorem ta_nil_flt : (Instr.typeAssert .nilIface X 23 true).run Tryz.prog w = .ok (.tuple #[.float .f64 0, .bool false]) w := run_ta_nil w Tryz.underlying23 (fun _ h => by cases h) (by kernel_rfl)
theorem ta_no_str (h : t ≠ 9) : (Instr.typeAssert (.iface t x) X 9 true).run Tryz.prog w = .ok (.tuple #[.string ⟨#[]⟩, .bool false]) w := run_ta_no w Tryz.underlying9 (fun _ h => by cases h) (by kernel_rfl) h
theorem ta_yes_str : (Instr.typeAssert (.iface 9 x) X 9 true).run Tryz.prog w = .ok (.tuple #[x, .bool true]) w := run_ta_yes w Tryz.underlying9 (fun _ h => by cases h)
theorem ta_nil_str : (Instr.typeAssert .nilIface X 9 true).run Tryz.prog w = .ok (.tuple #[.string ⟨#[]⟩, .bool false]) w := run_ta_nil w Tryz.underlying9 (fun _ h => by cases h) (by kernel_rfl)
theorem ta_no_byt (h : t ≠ 24) : (Instr.typeAssert (.iface t x) X 24 true).run Tryz.prog w = .ok (.tuple #[.slice none 0 0, .bool false]) w := run_ta_no w Tryz.underlying24 (fun _ h => by cases h) (by kernel_rfl) h
theorem ta_yes_byt : (Instr.typeAssert (.iface 24 x) X 24 true).run Tryz.prog w = .ok (.tuple #[x, .bool true]) w := run_ta_yes w Tryz.underlying24 (fun _ h => by cases h)
theorem ta_nil_byt : (Instr.typeAssert .nilIface X 24 true).run Tryz.prog w = .ok (.tuple #[.slice none 0 0, .bool false]) w := run_ta_nil w Tryz.underlying24 (fun _ h => by cases h) (by kernel_rfl)
theorem ta_no_ref (h : t ≠ 26) : (Instr.typeAssert (.iface t x) X 26 true).run Tryz.prog w = .ok (.tuple #[.int .u64 0, .bool false]) w := run_ta_no w Tryz.underlying26 (fun _ h => by cases h) (by kernel_rfl) h
theorem ta_yes_ref : (Instr.typeAssert (.iface 26 x) X 26 true).run Tryz.prog w = .ok (.tuple #[x, .bool true]) w := run_ta_yes w Tryz.underlying26 (fun _ h => by cases h)
theorem ta_nil_ref : (Instr.typeAssert .nilIface X 26 true).run Tryz.prog w = .ok (.tuple #[.int .u64 0, .bool false]) w := run_ta_nil w Tryz.underlying26 (fun _ h => by cases h) (by kernel_rfl)
theorem ta_no_lst (h : t ≠ 73) : (Instr.typeAssert (.iface t x) X 73 true).run Tryz.prog w = .ok (.tuple #[.slice none 0 0, .bool false]) w := run_ta_no w Tryz.underlying73 (fun _ h => by cases h) (by kernel_rfl) h
theorem ta_yes_lst : (Instr.typeAssert (.iface 73 x) X 73 true).run Tryz.prog w = .ok (.tuple #[x, .bool true]) w := run_ta_yes w Tryz.underlying73 (fun _ h => by cases h)
theorem ta_nil_lst : (Instr.typeAssert .nilIface X 73 true).run Tryz.prog w = .ok (.tuple #[.slice none 0 0, .bool false]) w := run_ta_nil w Tryz.underlying73 (fun _ h => by cases h) (by kernel_rfl)
theorem ta_no_dct (h : t ≠ 46) : (Instr.typeAssert (.iface t x) X 46 true).run Tryz.prog w = .ok (.tuple #[.slice none 0 0, .bool false]) w := run_ta_no w Tryz.underlying46 (fun _ h => by cases h) (by kernel_rfl) h
theorem ta_yes_dct : (Instr.typeAssert (.iface 46 x) X 46 true).run Tryz.prog w = .ok (.tuple #[x, .bool true]) w := run_ta_yes w Tryz.underlying46 (fun _ h => by cases h)
theorem ta_nil_dct : (Instr.typeAssert .nilIface X 46 true).run Tryz.prog w = .ok (.tuple #[.slice none 0 0, .bool false]) w := run_ta_nil w Tryz.underlying46 (fun _ h => by cases h) (by kernel_rfl)
theorem ta_no_rec (h : t ≠ 75) : (Instr.typeAssert (.iface t x) X 75 true).run Tryz.prog w = .ok (.tuple #[.pointer none, .bool false]) w := run_ta_no w Tryz.underlying75 (fun _ h => by cases h) (by kernel_rfl) h
theorem ta_yes_rec : (Instr.typeAssert (.iface 75 x) X 75 true).run Tryz.prog w = .ok (.tuple #[x, .bool true]) w := run_ta_yes w Tryz.underlying75 (fun _ h => by cases h)
theorem ta_nil_rec : (Instr.typeAssert .nilIface X 75 true).run Tryz.prog w = .ok (.tuple #[.pointer none, .bool false]) w := run_ta_nil w Tryz.underlying75 (fun _ h => by cases h) (by kernel_rfl)
end
end Go.Proofs.YtbemeapjeipjlaaGreatDoor
/- Walks: value.kind. -/
namespace Go.Proofs.YtbemeapjeipjlaaGreatDoor
open Go Go.RowKit
attribute [local go_sem] ta_no_bool ta_yes_bool ta_nil_bool ta_no_int64 ta_yes_int64 ta_nil_int64 ta_no_flt ta_yes_flt ta_nil_flt ta_no_str ta_yes_str ta_nil_str ta_no_byt ta_yes_byt ta_nil_byt ta_no_ref ta_yes_ref ta_nil_ref ta_no_lst ta_yes_lst ta_nil_lst ta_no_dct ta_yes_dct ta_nil_dct ta_no_rec ta_yes_rec ta_nil_rec
def kindV : V → Nat
  | .nil => 1
  | .bool _ => 2
  | .int _ => 3
  | .flt _ => 4
  | .text _ => 5
  | .bytes _ => 6
  | .ref _ => 7
  | .list _ => 8
  | .dict _ => 9
  | .record _ _ _ => 10
  | .nothing => 11
  | .alien => 0
theorem alienT_ne {t : TypeId} (h : alienT t = true) : t ≠ 4 ∧ t ≠ 2 ∧ t ≠ 23 ∧ t ≠ 9 ∧ t ≠ 24 ∧ t ≠ 26 ∧ t ≠ 73 ∧ t ≠ 46 ∧ t ≠ 75 := by
  simpa [alienT, and_assoc] using h
set_option maxRecDepth 100000 in
set_option maxHeartbeats 400000 in
theorem kind_nil (w : World) : Calls Tryz.prog 92 #[.nilIface] w fun e w' => e = .returned (.int .i64 1) ∧ w = w' := by
  go_enter Tryz.func92, Tryz.ntmps92
  go_wp2
  go_ret
  exact ⟨rfl, rfl⟩
set_option maxRecDepth 100000 in
set_option maxHeartbeats 400000 in
theorem kind_bool (b : Bool) (w : World) : Calls Tryz.prog 92 #[.iface 4 (.bool b)] w fun e w' => e = .returned (.int .i64 2) ∧ w = w' := by
  go_enter Tryz.func92, Tryz.ntmps92
  go_wp2
  go_ret
  exact ⟨rfl, rfl⟩
set_option maxRecDepth 100000 in
set_option maxHeartbeats 400000 in
theorem kind_int (n : Int) (w : World) : Calls Tryz.prog 92 #[.iface 2 (.int .i64 n)] w fun e w' => e = .returned (.int .i64 3) ∧ w = w' := by
  go_enter Tryz.func92, Tryz.ntmps92
  go_wp2
  go_ret
  exact ⟨rfl, rfl⟩
set_option maxRecDepth 100000 in
set_option maxHeartbeats 400000 in
theorem kind_flt (n : Nat) (w : World) : Calls Tryz.prog 92 #[.iface 23 (.float .f64 n)] w fun e w' => e = .returned (.int .i64 4) ∧ w = w' := by
  go_enter Tryz.func92, Tryz.ntmps92
  go_wp2
  go_ret
  exact ⟨rfl, rfl⟩
set_option maxRecDepth 100000 in
set_option maxHeartbeats 400000 in
theorem kind_text (s : ByteArray) (w : World) : Calls Tryz.prog 92 #[.iface 9 (.string s)] w fun e w' => e = .returned (.int .i64 5) ∧ w = w' := by
  go_enter Tryz.func92, Tryz.ntmps92
  go_wp2
  go_ret
  exact ⟨rfl, rfl⟩
set_option maxRecDepth 100000 in
set_option maxHeartbeats 400000 in
theorem kind_bytes (A : Option Addr) (n c : Nat) (w : World) : Calls Tryz.prog 92 #[.iface 24 (.slice A n c)] w fun e w' => e = .returned (.int .i64 6) ∧ w = w' := by
  go_enter Tryz.func92, Tryz.ntmps92
  go_wp2
  go_ret
  exact ⟨rfl, rfl⟩
set_option maxRecDepth 100000 in
set_option maxHeartbeats 400000 in
theorem kind_ref (n : Int) (w : World) : Calls Tryz.prog 92 #[.iface 26 (.int .u64 n)] w fun e w' => e = .returned (.int .i64 7) ∧ w = w' := by
  go_enter Tryz.func92, Tryz.ntmps92
  go_wp2
  go_ret
  exact ⟨rfl, rfl⟩
set_option maxRecDepth 100000 in
set_option maxHeartbeats 400000 in
theorem kind_list (A : Option Addr) (n c : Nat) (w : World) : Calls Tryz.prog 92 #[.iface 73 (.slice A n c)] w fun e w' => e = .returned (.int .i64 8) ∧ w = w' := by
  go_enter Tryz.func92, Tryz.ntmps92
  go_wp2
  go_ret
  exact ⟨rfl, rfl⟩
set_option maxRecDepth 100000 in
set_option maxHeartbeats 400000 in
theorem kind_dict (A : Option Addr) (n c : Nat) (w : World) : Calls Tryz.prog 92 #[.iface 46 (.slice A n c)] w fun e w' => e = .returned (.int .i64 9) ∧ w = w' := by
  go_enter Tryz.func92, Tryz.ntmps92
  go_wp2
  go_ret
  exact ⟨rfl, rfl⟩
set_option maxRecDepth 100000 in
set_option maxHeartbeats 400000 in
theorem kind_record (a : Addr) (w : World) : Calls Tryz.prog 92 #[.iface 75 (.pointer (some a))] w fun e w' => e = .returned (.int .i64 10) ∧ w = w' := by
  go_enter Tryz.func92, Tryz.ntmps92
  go_wp2
  go_ret
  exact ⟨rfl, rfl⟩
set_option maxRecDepth 100000 in
set_option maxHeartbeats 400000 in
theorem kind_nothing (w : World) : Calls Tryz.prog 92 #[.iface 75 (.pointer none)] w fun e w' => e = .returned (.int .i64 11) ∧ w = w' := by
  go_enter Tryz.func92, Tryz.ntmps92
  go_wp2
  go_ret
  exact ⟨rfl, rfl⟩
set_option maxRecDepth 100000 in
set_option maxHeartbeats 400000 in
theorem kind_alien (t : TypeId) (x : Value) (w : World) (ht : alienT t = true) : Calls Tryz.prog 92 #[.iface t x] w fun e w' => e = .returned (.int .i64 0) ∧ w = w' := by
  obtain ⟨a1, a2, a3, a4, a5, a6, a7, a8, a9⟩ := alienT_ne ht
  clear ht
  go_enter Tryz.func92, Tryz.ntmps92
  go_wp2
  go_ret
  exact ⟨rfl, rfl⟩
theorem kind_any (x : V) (v : Value) (B : Nat) (w : World) (h : Rd w B x v) : Calls Tryz.prog 92 #[v] w fun e w' => e = .returned (.int .i64 (kindV x)) ∧ w = w' := by
  cases x with
  | nil => subst h; exact kind_nil w
  | bool b => subst h; exact kind_bool b w
  | int n => obtain ⟨rfl, _⟩ := h; exact kind_int n w
  | flt n => subst h; exact kind_flt n w
  | text s => obtain ⟨rfl, _⟩ := h; exact kind_text s w
  | bytes l => obtain ⟨A, c, rfl, _⟩ := h; exact kind_bytes A _ c w
  | ref n => obtain ⟨rfl, _⟩ := h; exact kind_ref n w
  | list l => obtain ⟨A, c, rfl, _⟩ := h; exact kind_list A _ c w
  | dict l => obtain ⟨A, c, rfl, _⟩ := h; exact kind_dict A _ c w
  | record a b c => obtain ⟨b, rfl, _⟩ := h; exact kind_record _ w
  | nothing => subst h; exact kind_nothing w
  | alien => obtain ⟨t, x, rfl, ht⟩ := h; exact kind_alien t x w ht
end Go.Proofs.YtbemeapjeipjlaaGreatDoor
/- Walks: value.fields. -/
namespace Go.Proofs.YtbemeapjeipjlaaGreatDoor
open Go Go.RowKit
/- Go's <= of texts. -/
def leS (a b : ByteArray) : Bool := Op.bytesLess a.toList b.toList || a.toList == b.toList
def FieldsTo (l : List (ByteArray × V)) (k : Nat) : Prop := ∀ (i : Nat) (p : ByteArray × V), i < k → l[i]? = some p → nameB p.1.data.toList = true ∧ ∀ q, 0 < i → l[i - 1]? = some q → leS p.1 q.1 = false
open Classical in
noncomputable def fieldsV (l : List (ByteArray × V)) : Nat := if 4096 < l.length then 2 else if FieldsTo l l.length then 0 else 8
theorem FieldsTo.zero (l : List (ByteArray × V)) : FieldsTo l 0 := fun i p h => by omega
theorem FieldsTo.succ {l : List (ByteArray × V)} {k : Nat} {p : ByteArray × V} (h : FieldsTo l k) (hp : l[k]? = some p) (hn : nameB p.1.data.toList = true) (hq : ∀ q, 0 < k → l[k - 1]? = some q → leS p.1 q.1 = false) : FieldsTo l (k + 1) := by
  intro i r hi hr
  by_cases e : i = k
  · subst e; rw [hp] at hr; injection hr with hr; subst hr; exact ⟨hn, hq⟩
  · exact h i r (by omega) hr
theorem fieldsV_long {l : List (ByteArray × V)} (h : 4096 < l.length) : fieldsV l = 2 := by unfold fieldsV; rw [if_pos h]
theorem fieldsV_ok {l : List (ByteArray × V)} (h : l.length ≤ 4096) (hf : FieldsTo l l.length) : fieldsV l = 0 := by unfold fieldsV; rw [if_neg (by omega), if_pos hf]
theorem fieldsV_bad {l : List (ByteArray × V)} {k : Nat} {p : ByteArray × V} (h : l.length ≤ 4096) (hp : l[k]? = some p) (hb : nameB p.1.data.toList = false ∨ ∃ q, 0 < k ∧ l[k - 1]? = some q ∧ leS p.1 q.1 = true) : fieldsV l = 8 := by
  unfold fieldsV
  rw [if_neg (by omega), if_neg]
  intro hf
  have hk : k < l.length := (List.getElem?_eq_some_iff.1 hp).1
  obtain ⟨h1, h2⟩ := hf k p hk hp
  rcases hb with hb | ⟨q, h3, h4, h5⟩
  · rw [h1] at hb; cases hb
  · rw [h2 q h3 h4] at h5; cases h5
theorem RdS.one {w : World} {S : Nat → Prop} {x : V} {v : Value} (h : RdS w S x v) : v.oneCell' = true := by
  cases x with
  | nil => subst h; rfl
  | bool b => subst h; rfl
  | int n => obtain ⟨rfl, _⟩ := h; rfl
  | flt n => subst h; rfl
  | text s => obtain ⟨rfl, _⟩ := h; rfl
  | bytes l => obtain ⟨A, c, rfl, _⟩ := h; rfl
  | ref n => obtain ⟨rfl, _⟩ := h; rfl
  | list l => obtain ⟨A, c, rfl, _⟩ := h; rfl
  | dict l => obtain ⟨A, c, rfl, _⟩ := h; rfl
  | record a b c => obtain ⟨b, rfl, _⟩ := h; rfl
  | nothing => subst h; rfl
  | alien => obtain ⟨t, x, rfl, ht⟩ := h; rfl
theorem Rd.one {w : World} {B : Nat} {x : V} {v : Value} (h : Rd w B x v) : v.oneCell' = true := RdS.one h
/- A slice of fields, as it lies. -/
def DictAt (w : World) (B : Nat) (A : Option Addr) (l : List (ByteArray × V)) : Prop := l = [] ∨ ∃ b off, A = some ⟨b, off, none⟩ ∧ b < B ∧ RdD w (fun b => b < B) b off l
theorem DictAt.below {w w' : World} {B : Nat} {A : Option Addr} {l : List (ByteArray × V)} (h : DictAt w B A l) (hb : Below B w w') : DictAt w' B A l := by
  refine h.imp id ?_
  rintro ⟨b, off, hA, hB, hr⟩
  refine ⟨b, off, hA, hB, RdD.iff.2 fun i x hx => ?_⟩
  obtain ⟨hn, hs, v, hv, hd⟩ := RdD.iff.1 hr i x hx
  exact ⟨(hb.cell hB).trans hn, hs, v, (hb.cell hB).trans hv, hd.below hb⟩
theorem DictAt.more {w : World} {B B' : Nat} {A : Option Addr} {l : List (ByteArray × V)} (h : DictAt w B A l) (hB : B ≤ B') : DictAt w B' A l := by
  refine h.imp id ?_
  rintro ⟨b, off, hA, hb, hr⟩
  refine ⟨b, off, hA, by omega, RdD.iff.2 fun i x hx => ?_⟩
  obtain ⟨hn, hs, v, hv, hd⟩ := RdD.iff.1 hr i x hx
  exact ⟨hn, hs, v, hv, Rd.more hB _ _ hd⟩
theorem DictAt.at_ {w : World} {B : Nat} {A : Option Addr} {l : List (ByteArray × V)} (h : DictAt w B A l) {k : Nat} (hk : k < l.length) :
    ∃ b off, A = some ⟨b, off, none⟩ ∧ b < B ∧ RdD w (fun b => b < B) b off l := by
  rcases h with h | h
  · subst h; simp at hk
  · exact h
set_option maxRecDepth 100000 in
set_option maxHeartbeats 1000000 in
theorem fields_any (l : List (ByteArray × V)) (A : Option Addr) (c : Nat) (w : World) (hl : l.length ≤ 1099511627776) (hd : DictAt w w.heap.size A l) :
    Calls Tryz.prog 141 #[.slice A l.length c] w fun e w' => e = .returned (.int .i64 (fieldsV l)) ∧ Below w.heap.size w w' := by
  by_cases hlong : 4096 < l.length
  · have HF := Lib.hid (fieldsV_long hlong)
    go_enter Tryz.func141, Tryz.ntmps141
    go_wp2
    go_ret
    exact ⟨ret_int (by rw [HF.out]; rfl), Below.refl _ _⟩
  have hlen : l.length ≤ 4096 := by omega
  clear hlong
  go_enter Tryz.func141, Tryz.ntmps141
  go_wp2
  go_loopw [10] (fun i wr => ∃ k : Nat, i = .int .i64 k ∧ k ≤ l.length ∧ Hid (FieldsTo l k) ∧ Below w.heap.size w wr) (fun i _ => l.length - (intOf i).toNat)
  case atStart => exact ⟨0, rfl, by omega, FieldsTo.zero l, Below.refl _ _⟩
  case round =>
    obtain ⟨k, rfl, hk, HT, hb⟩ := hrel
    by_cases hlt : k < l.length
    · obtain ⟨b, off, rfl, hbB, hr⟩ := hd.at_ hlt
      have hz := hb.size
      obtain ⟨p, hp⟩ : ∃ p, l[k]? = some p := ⟨_, List.getElem?_eq_getElem hlt⟩
      obtain ⟨c0, hps, v, c1, hv⟩ := RdD.iff.1 hr k p hp
      have d0 := (hb.cell (p := ⟨b, off + k * 2, none⟩) hbB).trans c0
      have d1 := (hb.cell (p := ⟨b, off + k * 2 + 1, none⟩) hbB).trans c1
      have hst := fun (W : World) (a : Addr) (m : Mode) => run_store Tryz.prog W a v m hv.one
      have HP := Lib.hid hp
      clear hp c0 c1 hv
      have HN := fun (W : World) => name_any p.1 W hps
      cases hnm : nameB p.1.data.toList
      · have HF := Lib.hid (fieldsV_bad hlen HP.out (.inl hnm))
        rw [hnm] at HN
        have HNN := Lib.hid HN
        clear HN hnm
        go_wp2
        refine wp_region_below_lit (by kernel_rfl) (by kernel_rfl) ?_
        repeat (refine WpC.step (fun K hK => ?_); go_simp; first | (refine hK _ ?_; clear hK K) | (apply Exists.intro; refine ⟨fun W hW => ?_, hK _ ?_⟩; (first | (intros; rfl) | (refine ⟨rfl, ?_⟩; rfl) | ((obtain ⟨hc, hf⟩ := bcellB hW; go_simp; rfl)) | ((go_at_call 142; refine (HNN.out _).mono ?_; rintro e w1 ⟨rfl, hb1⟩; exact ⟨rfl, below_then hW (by go_simp) hb1⟩))); clear hK K))
        refine WpC.nil ?_
        intro wq hwq
        go_wp2
        go_ret
        exact ⟨ret_int (by rw [HF.out]; rfl), (hb.alloc hz _).trans (hwq.mono (by go_simp; omega))⟩
      · rw [hnm] at HN
        have HNN := Lib.hid HN
        have HNM := Lib.hid hnm
        clear HN hnm
        by_cases hk0 : k = 0
        · subst hk0
          simp only [Nat.zero_mul, Nat.add_zero] at d0 d1
          have HT2 : Hid (FieldsTo l (0 + 1)) := HT.out.succ HP.out HNM.out (fun q h => absurd h (by omega))
          go_wp2
          refine wp_region_below_lit (by kernel_rfl) (by kernel_rfl) ?_
          repeat (refine WpC.step (fun K hK => ?_); go_simp; first | (refine hK _ ?_; clear hK K) | (apply Exists.intro; refine ⟨fun W hW => ?_, hK _ ?_⟩; (first | (intros; rfl) | (refine ⟨rfl, ?_⟩; rfl) | ((obtain ⟨hc, hf⟩ := bcellB hW; go_simp; rfl)) | ((go_at_call 142; refine (HNN.out _).mono ?_; rintro e w1 ⟨rfl, hb1⟩; exact ⟨rfl, below_then hW (by go_simp) hb1⟩))); clear hK K))
          refine WpC.nil ?_
          intro wq hwq
          go_wp2
          refine ⟨⟨0 + 1, rfl, hlt, HT2, (hb.alloc hz _).trans (hwq.mono (by go_simp; omega))⟩, ?_⟩
          simp [intOf]; omega
        · obtain ⟨j, rfl⟩ : ∃ j, k = j + 1 := ⟨k - 1, by omega⟩
          obtain ⟨q, hq⟩ : ∃ q, l[j]? = some q := ⟨_, List.getElem?_eq_getElem (by omega)⟩
          obtain ⟨e0, hqs, -⟩ := RdD.iff.1 hr j q hq
          have dq := (hb.cell (p := ⟨b, off + j * 2, none⟩) hbB).trans e0
          clear e0
          have hwj : IntKind.i64.wrap (j : Int) = (j : Int) := by rw [IntKind.wrap_i64]; omega
          have hjl : j < l.length := by omega
          have hb1 : b < wr.heap.size + 1 := by omega
          have hb2 : b < wr.heap.size := by omega
          have hb3 : b ≠ wr.heap.size := by omega
          have hle' : (Op.bytesLess p.1.toList q.1.toList || p.1.toList == q.1.toList) = leS p.1 q.1 := rfl
          cases hle : leS p.1 q.1 <;> rw [hle] at hle'
          · have HT2 : Hid (FieldsTo l (j + 1 + 1)) := HT.out.succ HP.out HNM.out (fun q' _ h => by have : q' = q := Option.some.inj (h.symm.trans hq); rw [this]; exact hle)
            go_wp2
            refine wp_region_below_lit (by kernel_rfl) (by kernel_rfl) ?_
            repeat (refine WpC.step (fun K hK => ?_); go_simp; first | (refine hK _ ?_; clear hK K) | (apply Exists.intro; refine ⟨fun W hW => ?_, hK _ ?_⟩; (first | (intros; rfl) | (refine ⟨rfl, ?_⟩; rfl) | ((obtain ⟨hc, hf⟩ := bcellB hW; go_simp; rfl)) | ((go_at_call 142; refine (HNN.out _).mono ?_; rintro e w1 ⟨rfl, hb1⟩; exact ⟨rfl, below_then hW (by go_simp) hb1⟩))); clear hK K))
            refine WpC.nil ?_
            intro wq hwq
            go_wp2
            refine ⟨⟨j + 1 + 1, rfl, hlt, HT2, (hb.alloc hz _).trans (hwq.mono (by go_simp; omega))⟩, ?_⟩
            simp [intOf]; omega
          · have HF := Lib.hid (fieldsV_bad hlen HP.out (.inr ⟨q, by omega, hq, hle⟩))
            go_wp2
            refine wp_region_below_lit (by kernel_rfl) (by kernel_rfl) ?_
            repeat (refine WpC.step (fun K hK => ?_); go_simp; first | (refine hK _ ?_; clear hK K) | (apply Exists.intro; refine ⟨fun W hW => ?_, hK _ ?_⟩; (first | (intros; rfl) | (refine ⟨rfl, ?_⟩; rfl) | ((obtain ⟨hc, hf⟩ := bcellB hW; go_simp; rfl)) | ((go_at_call 142; refine (HNN.out _).mono ?_; rintro e w1 ⟨rfl, hb1⟩; exact ⟨rfl, below_then hW (by go_simp) hb1⟩))); clear hK K))
            refine WpC.nil ?_
            intro wq hwq
            go_wp2
            go_ret
            exact ⟨ret_int (by rw [HF.out]; rfl), (hb.alloc hz _).trans (hwq.mono (by go_simp; omega))⟩
    · obtain rfl : k = l.length := by omega
      have HF := Lib.hid (fieldsV_ok hlen HT.out)
      go_wp2
      go_ret
      exact ⟨ret_int (by rw [HF.out]; rfl), hb⟩
end Go.Proofs.YtbemeapjeipjlaaGreatDoor
