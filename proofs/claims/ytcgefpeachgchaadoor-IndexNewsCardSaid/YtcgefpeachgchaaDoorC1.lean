/- Walks: the check of a record without fields. -/
import Derived.Test.YtcgefpeachgchaaDoorB13
namespace Go.Proofs.YtcgefpeachgchaaDoor
open Go Go.RowKit
def nameX (s : ByteArray) : Bool := nameB s.data.toList
set_option maxRecDepth 100000 in
set_option maxHeartbeats 400000 in
theorem name_any (s : ByteArray) (w : World) (hs : s.size ≤ 140737488351232) :
    Calls Tryd.prog 32 #[.string s] w fun e w' => e = .returned (.bool (nameX s)) ∧ Below w.heap.size w w' := by
  unfold nameX
  by_cases h0 : s.size = 0
  · have he := isEmpty_nil h0
    have HF := Lib.hid (nameB_false_of_len (l := s.data.toList) (.inl (by rw [len_list]; omega)))
    clear h0
    go_enter Tryd.func32, Tryd.ntmps32
    go_wp2
    go_ret
    exact ⟨ret_bool HF.out.symm, Below.refl _ _⟩
  have hpos : 0 < s.size := by omega
  have he := isEmpty_of (s := s) (by omega)
  by_cases h1 : 32 < s.size
  · have HF := Lib.hid (nameB_false_of_len (l := s.data.toList) (.inr (by rw [len_list]; omega)))
    clear h0
    go_enter Tryd.func32, Tryd.ntmps32
    go_wp2
    go_ret
    exact ⟨ret_bool HF.out.symm, Below.refl _ _⟩
  have h2 : s.size ≤ 32 := by omega
  by_cases hl : 97 ≤ s[0].toNat ∧ s[0].toNat ≤ 122
  · exact name_loop s w (by omega) h2 hl
  have HF := Lib.hid (nameB_bad (get_at s 0 hpos) (.inr ⟨rfl, lowB_no hl⟩))
  have hl' : s[0].toNat < 97 ∨ 122 < s[0].toNat := by omega
  clear hl h0 h1
  rcases hl' with q1 | q1
  · go_enter Tryd.func32, Tryd.ntmps32
    go_wp2
    go_ret
    exact ⟨ret_bool HF.out.symm, Below.refl _ _⟩
  · have q2 : 97 ≤ s[0].toNat := by omega
    go_enter Tryd.func32, Tryd.ntmps32
    go_wp2
    go_ret
    exact ⟨ret_bool HF.out.symm, Below.refl _ _⟩
theorem fields_nil (w : World) :
    Calls Tryd.prog 31 #[.slice none 0 0] w fun e w' => e = .returned (.int .i64 0) ∧ w = w' := by
  go_enter Tryd.func31, Tryd.ntmps31
  go_wp2
  go_loop [10] (fun i => i = .int .i64 0) (fun _ => 0)
  case atStart => rfl
  case round =>
    subst hrel
    go_wp2
    go_ret
    exact ⟨rfl, rfl⟩

section
variable (v : Value) (w : World)
theorem ta_34_9 : Sem.run Tryd.prog (Instr.typeAssert (.iface 34 v) 20 9 true) w = .ok (.tuple #[.string ⟨#[]⟩, .bool false]) w := by kernel_rfl
theorem ta_34_84 : Sem.run Tryd.prog (Instr.typeAssert (.iface 34 v) 20 84 true) w = .ok (.tuple #[.slice none 0 0, .bool false]) w := by kernel_rfl
theorem ta_34_77 : Sem.run Tryd.prog (Instr.typeAssert (.iface 34 v) 20 77 true) w = .ok (.tuple #[.slice none 0 0, .bool false]) w := by kernel_rfl
theorem ta_34_36 : Sem.run Tryd.prog (Instr.typeAssert (.iface 34 v) 20 36 true) w = .ok (.tuple #[.slice none 0 0, .bool false]) w := by kernel_rfl
theorem ta_34_34 : Sem.run Tryd.prog (Instr.typeAssert (.iface 34 v) 20 34 true) w = .ok (.tuple #[v, .bool true]) w := by kernel_rfl
end
theorem bcell {W w1 : World} (hb : Below W.heap.size W w1) : (∀ b o, b < W.heap.size → w1.cell? ⟨b, o, none⟩ = W.cell? ⟨b, o, none⟩) ∧ (∀ b o, b < W.heap.size → w1.frozen? ⟨b, o, none⟩ = W.frozen? ⟨b, o, none⟩) :=
  ⟨fun b o h => hb.cell (p := ⟨b, o, none⟩) h, fun b o h => hb.frozen (p := ⟨b, o, none⟩) h⟩
set_option maxRecDepth 100000 in
set_option maxHeartbeats 400000 in
theorem own_rec (b : Nat) (c : ByteArray) (w : World) (hs : c.size ≤ 140737488351232) (hlt : b < w.heap.size) (h0 : w.cell? ⟨b, 0, none⟩ = some (.string c)) (h1 : w.cell? ⟨b, 1, none⟩ = some (.int .i64 1)) (h2 : w.cell? ⟨b, 2, none⟩ = some (.slice none 0 0)) :
    Calls Tryd.prog 22 #[.iface 34 (.pointer (some ⟨b, 0, none⟩)), .int .i64 0, .int .i64 1] w fun e w' => e = .returned (.int .i64 (if nameX c then 0 else 8)) ∧ Below w.heap.size w w' := by
  have t1 := ta_34_9
  have t2 := ta_34_84
  have t3 := ta_34_77
  have t4 := ta_34_36
  have t5 := ta_34_34
  cases hn : nameX c
  · have HN := Lib.hid hn
    clear hn
    go_enter Tryd.func22, Tryd.ntmps22
    go_wp2_with (go_at_call 32; refine (name_any c _ hs).mono ?_; rintro e w1 ⟨rfl, hb⟩; rw [HN.out])
    go_ret
    exact ⟨by simp, by assumption⟩
  · have HN := Lib.hid hn
    clear hn
    go_enter Tryd.func22, Tryd.ntmps22
    go_wp2_with (first
     | (go_at_call 32; refine (name_any c _ hs).mono ?_; rintro e w1 ⟨rfl, hb⟩; rw [HN.out]; obtain ⟨hc, hf⟩ := bcell hb)
     | (go_at_call 31; refine (fields_nil _).mono ?_; rintro e w2 ⟨rfl, rfl⟩))
    go_ret
    exact ⟨by simp, by assumption⟩

set_option maxRecDepth 100000 in
set_option maxHeartbeats 400000 in
theorem all_nil (c : Value) (w : World) :
    Calls Tryd.prog 23 #[c, .slice none 0 0, .int .i64 1] w fun e w' => e = .returned (.bool true) ∧ w = w' := by
  go_enter Tryd.func23, Tryd.ntmps23
  go_wp2
  go_loop [11] (fun i => i = .int .i64 0) (fun _ => 0)
  case atStart => rfl
  case round =>
    subst hrel
    go_wp2
    go_ret
    exact ⟨rfl, rfl⟩
def PartPost (B bc : Nat) (r : Bool) (w : World) (e : Ending) (w' : World) : Prop :=
  e = .returned (.bool r) ∧ Below B w w' ∧ (r = false → w'.cell? ⟨bc, 0, none⟩ = some (.int .i64 0) ∧ w'.cell? ⟨bc, 2, none⟩ = some (.int .i64 8))
set_option maxRecDepth 100000 in
set_option maxHeartbeats 400000 in
theorem part_rec (B bc b : Nat) (c : ByteArray) (w : World) (hs : c.size ≤ 140737488351232) (hb : b < B) (hB : B ≤ bc) (hlt : bc < w.heap.size) (h0 : w.cell? ⟨b, 0, none⟩ = some (.string c)) (h1 : w.cell? ⟨b, 1, none⟩ = some (.int .i64 1)) (h2 : w.cell? ⟨b, 2, none⟩ = some (.slice none 0 0))
   (g0 : w.cell? ⟨bc, 0, none⟩ = some (.int .i64 0)) (g1 : w.cell? ⟨bc, 1, none⟩ = some (.int .i64 0)) (g2 : w.cell? ⟨bc, 2, none⟩ = some (.int .i64 0)) 
   (f0 : w.frozen? ⟨bc, 0, none⟩ = false) (f1 : w.frozen? ⟨bc, 1, none⟩ = false) (f2 : w.frozen? ⟨bc, 2, none⟩ = false) :
    Calls Tryd.prog 16 #[.pointer (some ⟨bc, 0, none⟩), .iface 34 (.pointer (some ⟨b, 0, none⟩)), .int .i64 1] w (PartPost B bc (nameX c) w) := by
  have t1 := ta_34_9
  have t2 := ta_34_84
  have t3 := ta_34_77
  have t4 := ta_34_36
  have t5 := ta_34_34
  have hbl : b < w.heap.size := by omega
  have hne : b ≠ bc := by omega
  cases hn : nameX c
  · have HN := Lib.hid hn
    clear hn
    go_enter Tryd.func16, Tryd.ntmps16
    go_wp2_with (go_at_call 22; refine (own_rec b c _ hs hbl h0 h1 h2).mono ?_; rintro e w1 ⟨rfl, hb1⟩; rw [HN.out]; obtain ⟨hc, hf⟩ := bcell hb1)
    go_ret
    refine ⟨rfl, hb1.mono (by omega) |>.setCell hB _, fun _ => ⟨?_, ?_⟩⟩
    · go_simp
    · go_simp
  · have HN := Lib.hid hn
    clear hn
    go_enter Tryd.func16, Tryd.ntmps16
    go_wp2_with (first 
      | (go_at_call 22; refine (own_rec b c _ hs hbl h0 h1 h2).mono ?_; rintro e w1 ⟨rfl, hb1⟩; rw [HN.out]; obtain ⟨hc, hf⟩ := bcell hb1)
      | (go_at_call 23; refine (all_nil _ _).mono ?_; rintro e w2 ⟨rfl, rfl⟩))
    go_ret
    exact ⟨rfl, (((hb1.mono (by omega)).setCell hB _).setCell hB _).setCell hB _, fun h => by cases h⟩

def CheckPost (r : Bool) (w : World) (e : Ending) (w' : World) : Prop :=
  e = .returned (.tuple #[.int .i64 0, .int .i64 (if r then 0 else 8)]) ∧ Below w.heap.size w w'
set_option maxRecDepth 100000 in
set_option maxHeartbeats 400000 in
theorem check_rec (b : Nat) (c : ByteArray) (w : World) (hs : c.size ≤ 140737488351232) (hb : b < w.heap.size) (h0 : w.cell? ⟨b, 0, none⟩ = some (.string c)) (h1 : w.cell? ⟨b, 1, none⟩ = some (.int .i64 1)) (h2 : w.cell? ⟨b, 2, none⟩ = some (.slice none 0 0)) :
    Calls Tryd.prog 12 #[.iface 34 (.pointer (some ⟨b, 0, none⟩))] w (CheckPost (nameX c) w) := by
  have hp : ∀ o, Calls Tryd.prog 16 #[.pointer (some ⟨w.heap.size, 0, none⟩), .iface 34 (.pointer (some ⟨b, 0, none⟩)), .int .i64 1] (w.alloc (.cells #[.int .i64 0, .int .i64 0, .int .i64 0] o)) (PartPost w.heap.size w.heap.size (nameX c) (w.alloc (.cells #[.int .i64 0, .int .i64 0, .int .i64 0] o))) := by
    intro o
    exact part_rec w.heap.size w.heap.size b c _ hs hb (Nat.le_refl _) (by simp) (by go_simp) (by go_simp) (by go_simp) (by go_simp) (by go_simp) (by go_simp) (by go_simp) (by go_simp) (by go_simp)
  cases hn : nameX c
  all_goals
    rw [hn] at hp
    have HP := Lib.hid hp
    clear hp hn h0 h1 h2
    go_enter Tryd.func12, Tryd.ntmps12
    go_wp2_with fail
    refine (HP.out _).mono ?_
    rintro e w1 ⟨rfl, hb1, hcc⟩
  · obtain ⟨q0, q2⟩ := hcc rfl
    clear hcc
    go_wp2_with fail
    go_region
    go_wp2
    go_ret2
    exact ⟨rfl, ((Below.refl _ _).alloc (Nat.le_refl _) _).trans hb1.drew⟩
  · clear hcc
    go_wp2_with fail
    go_ret2
    exact ⟨rfl, ((Below.refl _ _).alloc (Nat.le_refl _) _).trans hb1⟩
theorem Check_rec (b : Nat) (c : ByteArray) (w : World) (hs : c.size ≤ 140737488351232) (hb : b < w.heap.size) (h0 : w.cell? ⟨b, 0, none⟩ = some (.string c)) (h1 : w.cell? ⟨b, 1, none⟩ = some (.int .i64 1)) (h2 : w.cell? ⟨b, 2, none⟩ = some (.slice none 0 0)) :
    Calls Tryd.prog 8 #[.iface 34 (.pointer (some ⟨b, 0, none⟩))] w (CheckPost (nameX c) w) := by
  have HP := Lib.hid (check_rec b c w hs hb h0 h1 h2)
  clear h0 h1 h2
  go_enter Tryd.func8, Tryd.ntmps8
  go_wp2_with fail
  refine HP.out.mono ?_
  rintro e w1 ⟨rfl, hb1⟩
  go_wp2_with fail
  all_goals (go_ret2; exact ⟨rfl, hb1⟩)
end Go.Proofs.YtcgefpeachgchaaDoor
