/- Walk: the document's text of a term that has no terms in it. -/
import Derived.Test.YtobpkelblpdajaaGreatDoorTX29
import Derived.Test.YtobpkelblpdajaaGreatDoorTX32
import Derived.Test.YtobpkelblpdajaaGreatDoorTX25
set_option linter.unusedVariables false
set_option linter.unusedSimpArgs false
set_option linter.unusedSectionVars false
namespace Go.Proofs.YtobpkelblpdajaaGreatDoor
open Go Go.RowKit
end Go.Proofs.YtobpkelblpdajaaGreatDoor
/- Walks: the parser: the number of a digit, names, an opening bracket. -/
namespace Go.Proofs.YtobpkelblpdajaaGreatDoor
open Go Go.RowKit
def lowL : List UInt8 := [97, 98, 99, 100, 101, 102, 103, 104, 105, 106, 107, 108, 109, 110, 111, 112, 113, 114, 115, 116, 117, 118, 119, 120, 121, 122]
def decL : List UInt8 := [48, 49, 50, 51, 52, 53, 54, 55, 56, 57]
def hexL : List UInt8 := [48, 49, 50, 51, 52, 53, 54, 55, 56, 57, 97, 98, 99, 100, 101, 102]
theorem ix_any (p : List UInt8) (c : UInt8) (x : Int) (hx : x = (c.toNat : Int)) (W : World) : Calls Tryz.prog 135 #[.string ⟨p.toArray⟩, .int .u8 x] W (fun e w' => e = .returned (.int .i64 (Lib.indexByte p c)) ∧ W = w') := by
  have := Tryz.strings_IndexByte ⟨p.toArray⟩ c.toNat W
  rw [hx]
  refine this.mono ?_
  rintro e w' ⟨rfl, rfl⟩
  exact ⟨by simp, rfl⟩
theorem hexv_any (c : UInt8) (x : Int) (hx : x = (c.toNat : Int)) (W : World) : Calls Tryz.prog 201 #[.int .u8 x] W (fun e w' => e = .returned (.int .i64 (Lib.indexByte hexL c)) ∧ W = w') := by
  have H := Lib.hid (ix_any hexL c x hx W)
  generalize Lib.indexByte hexL c = j at *
  clear hx
  unfold hexL at H
  go_enter Tryz.func201, Tryz.ntmps201
  go_wp2_with fail
  refine H.out.mono ?_
  rintro e w' ⟨rfl, rfl⟩
  go_wp2_with fail
  go_ret
  exact ⟨rfl, rfl⟩
def isNameB (l : List UInt8) : Bool := match l with | [] => false | c :: r => decide (r.length < 32) && lowL.contains c
set_option maxRecDepth 100000 in
set_option maxHeartbeats 2000000 in
theorem isName_any (s : ByteArray) (W : World) (hs : s.size ≤ 140737488351232) : Calls Tryz.prog 196 #[.string s] W (fun e w' => e = .returned (.bool (isNameB s.data.toList)) ∧ W = w') := by
  have hsz := size_list s
  cases hl : s.data.toList with
  | nil =>
    have h0 : s = ⟨#[]⟩ := by cases s with | mk d => cases d with | mk l => simp at hl; subst hl; rfl
    subst h0
    clear hl
    go_enter Tryz.func196, Tryz.ntmps196
    go_wp2_with fail
    go_ret
    exact ⟨rfl, rfl⟩
  | cons c r =>
    rw [hl] at hsz
    have hne : s.toList.isEmpty = false := isEmpty_of (by rw [← hsz]; simp)
    have hc : s.data.toList[0]? = some c := by rw [hl]; rfl
    have hix : ∀ W : World, (Instr.index 9 (.string s) (.int .i64 0)).run Tryz.prog W = .ok (.int .u8 (c.toNat : Int)) W := fun W => index_at hc rfl W
    rw [List.length_cons] at hsz
    have HIX := Lib.hid (fun (W : World) => ix_any lowL c _ rfl W)
    have hge := Lib.indexByte_ge lowL c
    have hhas := idx_has (l := lowL) (c := c)
    have HB : Hid (isNameB (c :: r) = (decide (r.length < 32) && lowL.contains c)) := Lib.hid rfl
    rw [HB.out]
    generalize Lib.indexByte lowL c = j at *
    generalize lowL.contains c = bb at *
    unfold lowL at HIX
    clear hl hc HB
    by_cases hlen : s.size ≤ 32
    · have hd : (s.size : Int) ≤ 32 := by omega
      have hr : decide (r.length < 32) = true := by rw [decide_eq_true_iff]; omega
      rw [hr]
      cases bb
      · have hj : j < 0 := by
          by_cases h : 0 ≤ j
          · exact absurd (hhas.1 h) (by simp)
          · omega
        have hj2 : decide (0 ≤ j) = false := by rw [decide_eq_false_iff_not]; omega
        clear hhas
        go_enter Tryz.func196, Tryz.ntmps196
        go_wp2_with fail
        refine (HIX.out _).mono ?_
        rintro e w' ⟨rfl, rfl⟩
        go_wp2_with fail
        go_ret
        exact ⟨rfl, rfl⟩
      · have hj : 0 ≤ j := hhas.2 rfl
        have hj2 : decide (0 ≤ j) = true := by rw [decide_eq_true_iff]; omega
        clear hhas
        go_enter Tryz.func196, Tryz.ntmps196
        go_wp2_with fail
        refine (HIX.out _).mono ?_
        rintro e w' ⟨rfl, rfl⟩
        go_wp2_with fail
        go_ret
        exact ⟨rfl, rfl⟩
    · have hd : ¬ (s.size : Int) ≤ 32 := by omega
      have hr : decide (r.length < 32) = false := by rw [decide_eq_false_iff_not]; omega
      rw [hr]
      go_enter Tryz.func196, Tryz.ntmps196
      clear hhas hr
      go_wp2_with fail
      go_ret
      exact ⟨by cases bb <;> rfl, rfl⟩
/- An opening bracket must come. -/
def OpensPost (bp : Nat) (s : ByteArray) (a n : Nat) (c : UInt8) (w : World) (e : Ending) (w' : World) : Prop := if c = 123 then e = .returned (.tuple #[]) ∧ PaAt w' bp s a n ∧ Pside bp w w' else Gives bp a 3 w e w'
set_option maxRecDepth 100000 in
set_option maxHeartbeats 2000000 in
theorem opens_any (bp : Nat) (s : ByteArray) (a n : Nat) (c : UInt8) (w : World) (h : PaAt w bp s a n) (hc : s.data.toList[a]? = some c) (hs : s.size ≤ 140737488351232) : Calls Tryz.prog 198 #[.pointer (some ⟨bp, 0, none⟩)] w (OpensPost bp s a n c w) := by
  have hlt := h.lt
  have e0 := h.c0
  have e1 := h.c1
  have HF := Lib.hid (fun (W : World) => fail_any (.pointer (some ⟨bp, 0, none⟩)) bp a 3 rfl W)
  obtain ⟨x, hx⟩ : ∃ x : Int, x = (c.toNat : Int) := ⟨_, rfl⟩
  have hix := fun (W : World) => index_at hc hx W
  have H := Lib.hid h
  by_cases h1 : c = 123
  · have hd : (x != 123) = false := by rw [bne_eq_false_iff_eq]; rw [hx, h1]; rfl
    have HP : Hid (OpensPost bp s a n c w = fun e w' => e = .returned (.tuple #[]) ∧ PaAt w' bp s a n ∧ Pside bp w w') := Lib.hid (by funext e w'; unfold OpensPost; rw [if_pos h1])
    rw [HP.out]
    clear h hc hx h1 HP
    go_enter Tryz.func198, Tryz.ntmps198
    go_wp2_with fail
    go_quiet (fail)
    go_wp2_with fail
    go_end0
    exact ⟨rfl, H.out.drewN _, (Pside.refl _ _).drewN _⟩
  · have hd : (x != 123) = true := by
      rw [bne_iff_ne]
      intro h2
      exact h1 (UInt8.toNat_inj.1 (by have : (c.toNat : Int) = 123 := by rw [← hx]; exact h2
                                      show c.toNat = 123; omega))
    have HP : Hid (OpensPost bp s a n c w = Gives bp a 3 w) := Lib.hid (by funext e w'; unfold OpensPost; rw [if_neg h1])
    rw [HP.out]
    clear h hc hx h1 HP
    go_enter Tryz.func198, Tryz.ntmps198
    go_wp2_with fail
    go_quiet (fail)
    go_wp2_with fail
    refine (HF.out _).mono ?_
    rintro e w2 ⟨rfl, h3⟩
    exact ⟨rfl, rfl, ((Pside.refl _ _).drewN _).trans h3⟩
end Go.Proofs.YtobpkelblpdajaaGreatDoor
