/- Walk: lines laid on one line. -/
import Derived.Test.YtobpkelblpdajaaGreatDoorTX24
import Derived.Test.YtobpkelblpdajaaGreatDoorTX25
import Derived.Test.YtobpkelblpdajaaGreatDoorTX06
import Derived.ChangeArms
import Derived.Deep.Slices
import Derived.ChangeOld
import GoSem.ClaimJoined
set_option linter.unusedVariables false
set_option linter.unusedSimpArgs false
set_option linter.unusedSectionVars false
namespace Go.Proofs.YtobpkelblpdajaaGreatDoor
open Go Go.RowKit
theorem flat_mode {l : List UInt8} (h : l.head? ≠ some 32) (acc : List UInt8) : flatM acc true l = flatM acc false l := by
  cases l with
  | nil => rfl
  | cons c r => rw [flatM, flatM, if_neg (fun e => h (by rw [e.2]; rfl))]; simp
theorem own_last {w : World} {B : Nat} {v : Value} {l : List UInt8} {y : UInt8} (h : OwnB w B v l) (hy : l.getLast? = some y) : ∃ g cap, v = .slice (some ⟨g, 0, none⟩) l.length cap ∧ w.cell? ⟨g, l.length - 1, none⟩ = some (.int .u8 (y.toNat : Int)) := by
  have hne : l ≠ [] := by rintro rfl; cases hy
  have hl : 0 < l.length := List.length_pos_iff.2 hne
  obtain ⟨g, cap, rfl, hg, hlt⟩ := World.ownsRow.form h hl
  refine ⟨g, cap, rfl, ?_⟩
  have := World.ownsRow.cells (g := g) h rfl (l.length - 1) (.int .u8 (y.toNat : Int)) (by
    unfold Lib.byteCells
    rw [List.getElem?_map, ← List.getLast?_eq_getElem?, hy]; rfl)
  simpa [Addr.add_lit] using this
set_option maxRecDepth 100000 in
set_option maxHeartbeats 4000000 in
theorem flat_any (s : ByteArray) (w : World) (hs : s.size ≤ 140737488351232) : Calls Tryz.prog 32 #[.string s] w (TextPost (flatM [] false s.data.toList) w) := by
  have hsz := size_list s
  obtain ⟨i0, hi0, hz0, hz1, hz2⟩ := info_parts Tryz.infoByte
  go_enter Tryz.func32, Tryz.ntmps32
  go_wp2_with fail
  go_loopg [3, 4] (s.size) (fun g v i wr => ∃ (k : Nat) (acc : List UInt8), i = .int .i64 k ∧ Hid (k + g = s.size) ∧ k ≤ s.size ∧ Hid (flatM [] false s.data.toList = flatM acc false (s.data.toList.drop k)) ∧ acc.length ≤ k ∧ OwnB wr w.heap.size v acc ∧ Below w.heap.size w wr)
  case atStart => exact ⟨0, [], rfl, Lib.hid (by omega), by omega, Lib.hid (by simp), by simp, OwnB.nil _ _, Below.refl _ _⟩
  case round =>
    obtain ⟨k, acc, rfl, HQ, hqs, HR, hal, hown, hb⟩ := hrel
    have hsr := hb.size
    have HB := Lib.hid hb
    clear hb
    obtain ⟨A1, k1, rfl⟩ := ownsRow_form hown
    cases gk with
    | zero =>
      have hqe : k = s.size := HQ.out
      have HPO : Hid (flatM [] false s.data.toList = acc) := Lib.hid (by rw [HR.out, List.drop_of_length_le (by omega)]; rfl)
      have hcv := conv_any hown
      have hd1 : ¬ k < s.size := by omega
      have hd2 : decide ((k : Int) < (s.size : Int)) = false := by rw [decide_eq_false_iff_not]; omega
      clear hqe HR hown
      go_wp2_with fail
      go_ret
      exact ⟨by rw [HPO.out]; rfl, HB.out⟩
    | succ g =>
      have hql : k < s.size := by have := HQ.out; omega
      obtain ⟨c, hc⟩ : ∃ c, s.data.toList[k]? = some c := ⟨_, List.getElem?_eq_getElem (by omega)⟩
      have hdr : s.data.toList.drop k = c :: s.data.toList.drop (k + 1) := by
        have h1 := List.drop_eq_getElem_cons (l := s.data.toList) (i := k) (by omega)
        rw [h1]
        rw [List.getElem?_eq_getElem (by omega)] at hc
        injection hc with hc
        rw [hc]
      obtain ⟨x, hx⟩ : ∃ x : Int, x = (c.toNat : Int) := ⟨_, rfl⟩
      have hix := fun (W : World) => index_at hc hx W
      have hd1 : k < s.size := hql
      have hd2 : decide ((k : Int) < (s.size : Int)) = true := by rw [decide_eq_true_iff]; omega
      have hw1 : IntKind.i64.wrap ((k : Int) + 1) = (k : Int) + 1 := by rw [IntKind.wrap_i64]; omega
      have HX := Lib.hid hx
      have HOW := Lib.hid hown
      by_cases h10 : x = 10
      · have e10 : (x != 10) = false := by rw [bne_eq_false_iff_eq]; exact h10
        have hc10 : c = 10 := UInt8.toNat_inj.1 (by show c.toNat = 10; omega)
        have HR2 : Hid (flatM [] false s.data.toList = flatM (if acc.getLast? = some 44 then acc ++ [32] else acc) true (s.data.toList.drop (k + 1))) := Lib.hid (by rw [HR.out, hdr, flatM, if_neg (by simp), if_pos hc10])
        clear hc hx hdr HR h10 hc10
        cases hla : acc.getLast? with
        | none =>
          obtain rfl : acc = [] := List.getLast?_eq_none_iff.1 hla
          have HR3 : Hid (flatM [] false s.data.toList = flatM ([] : List UInt8) true (s.data.toList.drop (k + 1))) := Lib.hid (by rw [HR2.out]; rfl)
          clear HR2 hown
          go_wp2_with fail

          have HO5 := Lib.hid HOW.out
          have HB5 := Lib.hid HB.out
          have HA5 : Hid (([] : List UInt8).length ≤ k + 1) := Lib.hid (by simp)
          go_loopg [4] (s.size - (k + 1)) (fun g2 i w5 => ∃ m : Nat, i = .int .i64 m ∧ k ≤ m ∧ m < s.size ∧ Hid (m + 1 + g2 = s.size) ∧ Hid (flatM [] false s.data.toList = flatM ([]) true (s.data.toList.drop (m + 1))) ∧ w5 = wr)
          case atStart => exact ⟨k, rfl, Nat.le_refl _, hql, Lib.hid (by omega), HR3, rfl⟩
          case round =>
            obtain ⟨m, rfl, hkm, hms, HG2, HR4, rfl⟩ := hrel
            have hwm : IntKind.i64.wrap ((m : Int) + 1) = (m : Int) + 1 := by rw [IntKind.wrap_i64]; omega
            by_cases hme : m + 1 < s.size
            · obtain ⟨c2, hc2⟩ : ∃ c, s.data.toList[m + 1]? = some c := ⟨_, List.getElem?_eq_getElem (by omega)⟩
              have hdr2 : s.data.toList.drop (m + 1) = c2 :: s.data.toList.drop (m + 1 + 1) := by
                have h1 := List.drop_eq_getElem_cons (l := s.data.toList) (i := m + 1) (by omega)
                rw [h1]
                rw [List.getElem?_eq_getElem (by omega)] at hc2
                injection hc2 with hc2
                rw [hc2]
              obtain ⟨x2, hx2⟩ : ∃ x : Int, x = (c2.toNat : Int) := ⟨_, rfl⟩
              have hix2 : ∀ W : World, (Instr.index 9 (.string s) (.int .i64 ((m : Int) + 1))).run Tryz.prog W = .ok (.int .u8 x2) W := fun W => by have := index_at hc2 hx2 W; simpa using this
              have hd3 : (m : Int) + 1 < (s.size : Int) := by omega
              by_cases h32 : x2 = 32
              · have hc32 : c2 = 32 := UInt8.toNat_inj.1 (by show c2.toNat = 32; omega)
                have HR5 : Hid (flatM [] false s.data.toList = flatM ([]) true (s.data.toList.drop (m + 1 + 1))) := Lib.hid (by rw [HR4.out, hdr2, flatM, if_pos ⟨rfl, hc32⟩])
                have e32 : (x2 == 32) = true := by rw [beq_iff_eq]; exact h32
                clear hc2 hx2 hdr2 HR4 h32 hc32
                go_wp2_with fail
                go_roundg (s.size - (m + 1 + 1))
                case rel => exact ⟨m + 1, rfl, by omega, hme, Lib.hid (by omega), HR5, rfl⟩
                case measure => (have := HG2.out; omega)
              · have HR5 : Hid (flatM [] false s.data.toList = flatM ([]) false (s.data.toList.drop (m + 1))) := Lib.hid (by rw [HR4.out, flat_mode]; rw [hdr2]; intro e; injection e with e; exact h32 (by rw [hx2, e]; rfl))
                have e32 : (x2 == 32) = false := by rw [beq_eq_false_iff_ne]; exact h32
                clear hc2 hx2 hdr2 HR4 h32
                go_wp2_with fail
                go_roundg (s.size - (m + 1))
                case rel => exact ⟨m + 1, [], rfl, Lib.hid (by omega), by omega, HR5, Nat.le_trans HA5.out (by omega), HO5.out, HB5.out⟩
                case measure => (have := HQ.out; omega)
            · have HR5 : Hid (flatM [] false s.data.toList = flatM ([]) false (s.data.toList.drop (m + 1))) := Lib.hid (by rw [HR4.out, flat_mode]; rw [List.drop_of_length_le (by omega)]; simp)
              have hd3 : ¬ (m : Int) + 1 < (s.size : Int) := by omega
              clear HR4
              go_wp2_with fail
              go_roundg (s.size - (m + 1))
              case rel => exact ⟨m + 1, [], rfl, Lib.hid (by omega), by omega, HR5, Nat.le_trans HA5.out (by omega), HO5.out, HB5.out⟩
              case measure => (have := HQ.out; omega)

        | some y =>
          obtain ⟨g9, cap9, hsl, hcell⟩ := own_last hown hla
          injection hsl with hA1 _ hk9
          subst hA1
          subst hk9
          have hlp : 0 < acc.length := by
            cases acc with
            | nil => cases hla
            | cons a l => simp
          have hlp2 : (0 : Int) < (acc.length : Int) := by omega
          have hwl : IntKind.i64.wrap ((acc.length : Int) - 1) = ((acc.length - 1 : Nat) : Int) := by rw [IntKind.wrap_i64]; omega
          have hll : acc.length - 1 < acc.length := by omega
          by_cases hy : y = 44
          · subst hy
            have HR3 : Hid (flatM [] false s.data.toList = flatM (acc ++ [32]) true (s.data.toList.drop (k + 1))) := Lib.hid (by rw [HR2.out, if_pos hla])
            clear HR2 hown hla
            go_wp2_with (at_builtin; refine wpList_append_own _ rfl (.tmp 33) (.tmp 34) 23 rfl w.heap.size 5 i0 _ 1 1 Tryz.underlying23 hi0 hz0 hz1 hz2 rfl (by omega) (.slice (some ⟨g9, 0, none⟩) acc.length k1) acc.length _ rfl (World.ownsRow.alloc HOW.out _) ⟨wr.heap.size, 0, none⟩ 1 1 [_] rfl rfl (news_at rfl) (one_of1 rfl) (by unfold maxLen; omega) (by omega) (by simp; omega) ?_; intro v3 w3 hn3 hg3 _; refine Hid.out ?_)
            have ho3 := OwnB.app (m := [32]) rfl rfl hn3
            have hb3 : Below w.heap.size w w3 := (HB.out.alloc HB.out.size _).grown hg3 (by simp; omega) (fun j hj => (World.ownsRow.lt HOW.out j hj).1)
            obtain ⟨A3, k3, hv3⟩ := ownsRow_form hn3
            subst hv3
            refine Lib.hid ?_
            clear hcell hn3 hg3
            go_wp2_with fail

            have HO5 := Lib.hid ho3
            have HB5 := Lib.hid hb3
            have HA5 : Hid ((acc ++ [32] : List UInt8).length ≤ k + 1) := Lib.hid (by simp; omega)
            go_loopg [4] (s.size - (k + 1)) (fun g2 i w5 => ∃ m : Nat, i = .int .i64 m ∧ k ≤ m ∧ m < s.size ∧ Hid (m + 1 + g2 = s.size) ∧ Hid (flatM [] false s.data.toList = flatM (acc ++ [32]) true (s.data.toList.drop (m + 1))) ∧ w5 = w3)
            case atStart => exact ⟨k, rfl, Nat.le_refl _, hql, Lib.hid (by omega), HR3, rfl⟩
            case round =>
              obtain ⟨m, rfl, hkm, hms, HG2, HR4, rfl⟩ := hrel
              have hwm : IntKind.i64.wrap ((m : Int) + 1) = (m : Int) + 1 := by rw [IntKind.wrap_i64]; omega
              by_cases hme : m + 1 < s.size
              · obtain ⟨c2, hc2⟩ : ∃ c, s.data.toList[m + 1]? = some c := ⟨_, List.getElem?_eq_getElem (by omega)⟩
                have hdr2 : s.data.toList.drop (m + 1) = c2 :: s.data.toList.drop (m + 1 + 1) := by
                  have h1 := List.drop_eq_getElem_cons (l := s.data.toList) (i := m + 1) (by omega)
                  rw [h1]
                  rw [List.getElem?_eq_getElem (by omega)] at hc2
                  injection hc2 with hc2
                  rw [hc2]
                obtain ⟨x2, hx2⟩ : ∃ x : Int, x = (c2.toNat : Int) := ⟨_, rfl⟩
                have hix2 : ∀ W : World, (Instr.index 9 (.string s) (.int .i64 ((m : Int) + 1))).run Tryz.prog W = .ok (.int .u8 x2) W := fun W => by have := index_at hc2 hx2 W; simpa using this
                have hd3 : (m : Int) + 1 < (s.size : Int) := by omega
                by_cases h32 : x2 = 32
                · have hc32 : c2 = 32 := UInt8.toNat_inj.1 (by show c2.toNat = 32; omega)
                  have HR5 : Hid (flatM [] false s.data.toList = flatM (acc ++ [32]) true (s.data.toList.drop (m + 1 + 1))) := Lib.hid (by rw [HR4.out, hdr2, flatM, if_pos ⟨rfl, hc32⟩])
                  have e32 : (x2 == 32) = true := by rw [beq_iff_eq]; exact h32
                  clear hc2 hx2 hdr2 HR4 h32 hc32
                  go_wp2_with fail
                  go_roundg (s.size - (m + 1 + 1))
                  case rel => exact ⟨m + 1, rfl, by omega, hme, Lib.hid (by omega), HR5, rfl⟩
                  case measure => (have := HG2.out; omega)
                · have HR5 : Hid (flatM [] false s.data.toList = flatM (acc ++ [32]) false (s.data.toList.drop (m + 1))) := Lib.hid (by rw [HR4.out, flat_mode]; rw [hdr2]; intro e; injection e with e; exact h32 (by rw [hx2, e]; rfl))
                  have e32 : (x2 == 32) = false := by rw [beq_eq_false_iff_ne]; exact h32
                  clear hc2 hx2 hdr2 HR4 h32
                  go_wp2_with fail
                  go_roundg (s.size - (m + 1))
                  case rel => exact ⟨m + 1, acc ++ [32], rfl, Lib.hid (by omega), by omega, HR5, Nat.le_trans HA5.out (by omega), HO5.out, HB5.out⟩
                  case measure => (have := HQ.out; omega)
              · have HR5 : Hid (flatM [] false s.data.toList = flatM (acc ++ [32]) false (s.data.toList.drop (m + 1))) := Lib.hid (by rw [HR4.out, flat_mode]; rw [List.drop_of_length_le (by omega)]; simp)
                have hd3 : ¬ (m : Int) + 1 < (s.size : Int) := by omega
                clear HR4
                go_wp2_with fail
                go_roundg (s.size - (m + 1))
                case rel => exact ⟨m + 1, acc ++ [32], rfl, Lib.hid (by omega), by omega, HR5, Nat.le_trans HA5.out (by omega), HO5.out, HB5.out⟩
                case measure => (have := HQ.out; omega)

          · have HR3 : Hid (flatM [] false s.data.toList = flatM acc true (s.data.toList.drop (k + 1))) := Lib.hid (by rw [HR2.out, if_neg (by rw [hla]; intro e; injection e with e; exact hy e)])
            have ey : ((y.toNat : Int) == 44) = false := by rw [beq_eq_false_iff_ne]; intro e; exact hy (UInt8.toNat_inj.1 (by show y.toNat = 44; omega))
            clear HR2 hown hla
            go_wp2_with fail

            have HO5 := Lib.hid HOW.out
            have HB5 := Lib.hid HB.out
            have HA5 : Hid ((acc : List UInt8).length ≤ k + 1) := Lib.hid (by omega)
            go_loopg [4] (s.size - (k + 1)) (fun g2 i w5 => ∃ m : Nat, i = .int .i64 m ∧ k ≤ m ∧ m < s.size ∧ Hid (m + 1 + g2 = s.size) ∧ Hid (flatM [] false s.data.toList = flatM (acc) true (s.data.toList.drop (m + 1))) ∧ w5 = wr)
            case atStart => exact ⟨k, rfl, Nat.le_refl _, hql, Lib.hid (by omega), HR3, rfl⟩
            case round =>
              obtain ⟨m, rfl, hkm, hms, HG2, HR4, rfl⟩ := hrel
              have hwm : IntKind.i64.wrap ((m : Int) + 1) = (m : Int) + 1 := by rw [IntKind.wrap_i64]; omega
              by_cases hme : m + 1 < s.size
              · obtain ⟨c2, hc2⟩ : ∃ c, s.data.toList[m + 1]? = some c := ⟨_, List.getElem?_eq_getElem (by omega)⟩
                have hdr2 : s.data.toList.drop (m + 1) = c2 :: s.data.toList.drop (m + 1 + 1) := by
                  have h1 := List.drop_eq_getElem_cons (l := s.data.toList) (i := m + 1) (by omega)
                  rw [h1]
                  rw [List.getElem?_eq_getElem (by omega)] at hc2
                  injection hc2 with hc2
                  rw [hc2]
                obtain ⟨x2, hx2⟩ : ∃ x : Int, x = (c2.toNat : Int) := ⟨_, rfl⟩
                have hix2 : ∀ W : World, (Instr.index 9 (.string s) (.int .i64 ((m : Int) + 1))).run Tryz.prog W = .ok (.int .u8 x2) W := fun W => by have := index_at hc2 hx2 W; simpa using this
                have hd3 : (m : Int) + 1 < (s.size : Int) := by omega
                by_cases h32 : x2 = 32
                · have hc32 : c2 = 32 := UInt8.toNat_inj.1 (by show c2.toNat = 32; omega)
                  have HR5 : Hid (flatM [] false s.data.toList = flatM (acc) true (s.data.toList.drop (m + 1 + 1))) := Lib.hid (by rw [HR4.out, hdr2, flatM, if_pos ⟨rfl, hc32⟩])
                  have e32 : (x2 == 32) = true := by rw [beq_iff_eq]; exact h32
                  clear hc2 hx2 hdr2 HR4 h32 hc32
                  go_wp2_with fail
                  go_roundg (s.size - (m + 1 + 1))
                  case rel => exact ⟨m + 1, rfl, by omega, hme, Lib.hid (by omega), HR5, rfl⟩
                  case measure => (have := HG2.out; omega)
                · have HR5 : Hid (flatM [] false s.data.toList = flatM (acc) false (s.data.toList.drop (m + 1))) := Lib.hid (by rw [HR4.out, flat_mode]; rw [hdr2]; intro e; injection e with e; exact h32 (by rw [hx2, e]; rfl))
                  have e32 : (x2 == 32) = false := by rw [beq_eq_false_iff_ne]; exact h32
                  clear hc2 hx2 hdr2 HR4 h32
                  go_wp2_with fail
                  go_roundg (s.size - (m + 1))
                  case rel => exact ⟨m + 1, acc, rfl, Lib.hid (by omega), by omega, HR5, Nat.le_trans HA5.out (by omega), HO5.out, HB5.out⟩
                  case measure => (have := HQ.out; omega)
              · have HR5 : Hid (flatM [] false s.data.toList = flatM (acc) false (s.data.toList.drop (m + 1))) := Lib.hid (by rw [HR4.out, flat_mode]; rw [List.drop_of_length_le (by omega)]; simp)
                have hd3 : ¬ (m : Int) + 1 < (s.size : Int) := by omega
                clear HR4
                go_wp2_with fail
                go_roundg (s.size - (m + 1))
                case rel => exact ⟨m + 1, acc, rfl, Lib.hid (by omega), by omega, HR5, Nat.le_trans HA5.out (by omega), HO5.out, HB5.out⟩
                case measure => (have := HQ.out; omega)

      · have e10 : (x != 10) = true := by rw [bne_iff_ne]; exact h10
        have HR2 : Hid (flatM [] false s.data.toList = flatM (acc ++ [c]) false (s.data.toList.drop (k + 1))) := Lib.hid (by rw [HR.out, hdr, flatM, if_neg (by simp), if_neg (by rintro rfl; exact h10 hx)])
        clear hc hx hdr HR h10 hown
        go_wp2_with (at_builtin; refine wpList_append_own _ rfl (.tmp 15) (.tmp 19) 23 rfl w.heap.size 5 i0 _ 1 1 Tryz.underlying23 hi0 hz0 hz1 hz2 rfl (by omega) (.slice A1 acc.length k1) acc.length _ rfl (World.ownsRow.alloc HOW.out _) ⟨wr.heap.size, 0, none⟩ 1 1 [_] rfl rfl (news_at rfl) (one_of1 rfl) (by unfold maxLen; omega) (by omega) (by simp; omega) ?_; intro v3 w3 hn3 hg3 _; refine Hid.out ?_)
        have ho3 := OwnB.app (m := [c]) rfl (by rw [HX.out]; rfl) hn3
        have hb3 : Below w.heap.size w w3 := (HB.out.alloc HB.out.size _).grown hg3 (by simp; omega) (fun j hj => (World.ownsRow.lt HOW.out j hj).1)
        refine Lib.hid ?_
        go_wp2_with fail
        go_roundg g
        case rel => exact ⟨k + 1, acc ++ [c], rfl, Lib.hid (by have := HQ.out; omega), by omega, HR2, by simp; omega, ho3, hb3⟩
        case measure => omega
end Go.Proofs.YtobpkelblpdajaaGreatDoor
/- What the arguments hold, out of their readings: terms. -/
namespace Go.Proofs.YtobpkelblpdajaaGreatDoor
open Go Go.RowKit
theorem list_of {α : Type} {Q : Nat → α → Prop} : ∀ {n : Nat}, (∀ i, i < n → ∃ a, Q i a) → ∃ l : List α, l.length = n ∧ ∀ i x, l[i]? = some x → Q i x
  | 0, _ => ⟨[], rfl, fun i x h => by simp at h⟩
  | n + 1, h => by
    obtain ⟨l, hl, hq⟩ := list_of (n := n) fun i hi => h i (by omega)
    obtain ⟨a, ha⟩ := h n (by omega)
    refine ⟨l ++ [a], by simp [hl], fun i x hx => ?_⟩
    by_cases hi : i < n
    · rw [List.getElem?_append_left (by omega)] at hx; exact hq i x hx
    · have h1 : i = n := by have := (List.getElem?_eq_some_iff.1 hx).1; simp at this; omega
      subst h1
      rw [List.getElem?_append_right (by omega), hl] at hx
      simp at hx; subst hx; exact ha
section
variable {H : Type} {enc : TypeId × Value → H} {P : Program} {w : World} {held : Bool}
/- No part weighs more than what memory can hold. -/
def Wok (P : Program) (t : TypeId) (d : DataW H) : Prop := ∀ n ∈ d.weights P t, n ≤ reachBytes
theorem weightsAll_mem {e : TypeId} {d : DataW H} : ∀ {l : List (DataW H)}, d ∈ l → ∀ n ∈ d.weights P e, n ∈ DataW.weightsAll P e l
  | x :: r, h, n, hn => by
    rw [DataW.weightsAll, List.mem_append]
    rcases List.mem_cons.1 h with rfl | h
    · exact .inl hn
    · exact .inr (weightsAll_mem h n hn)
theorem weightsEach_mem {t : TypeId} {d : DataW H} : ∀ {ts : List TypeId} {l : List (DataW H)} {i : Nat}, ts[i]? = some t → l[i]? = some d → ∀ n ∈ d.weights P t, n ∈ DataW.weightsEach P ts l
  | u :: ts, x :: l, 0, h1, h2, n, hn => by
    simp at h1 h2; subst h1; subst h2
    rw [DataW.weightsEach, List.mem_append]; exact .inl hn
  | u :: ts, x :: l, i + 1, h1, h2, n, hn => by
    rw [DataW.weightsEach, List.mem_append]
    exact .inr (weightsEach_mem (i := i) (by simpa using h1) (by simpa using h2) n hn)
  | [], _, i, h1, _, _, _ => by simp at h1
  | _ :: _, [], i, _, h2, _, _ => by simp at h2
theorem open_field {t : TypeId} {fs : Array Field} {fuel : Nat} {cs : List Value} {x : DataW H × List MemPlace} (ht : P.underlying t = some (.struct fs)) (h : DataW.trod enc P w 0 (fun _ => true) held fuel t cs = some x) (hw : Wok P t x.1) :
    ∃ n, fuel = n + 1 ∧ cs.length = P.cellsOf t ∧ ∀ (i : Nat) (ty : TypeId) (o : Nat), (fs[i]?).map (fun f => (f.type, f.offset)) = some (ty, o) → ∃ y, DataW.trod enc P w 0 (fun _ => true) held n ty ((cs.drop o).take (P.cellsOf ty)) = some y ∧ Wok P ty y.1 := by
  obtain ⟨xs, n, rfl, rfl, hl, hlen, hf⟩ := DataW.trod_struct ht h
  refine ⟨n, rfl, hl, fun i ty o hi => ?_⟩
  obtain ⟨f, hfi, hfo⟩ := Option.map_eq_some_iff.1 hi
  clear hi
  injection hfo with h1 h2
  subst h1; subst h2
  have hlt : i < xs.length := by rw [hlen]; exact (Array.getElem?_eq_some_iff.1 hfi).1
  refine ⟨xs[i], by rw [hf i f hfi, List.getElem?_eq_getElem hlt], fun m hm => hw m ?_⟩
  show m ∈ DataW.weights P t (.agg (xs.map (·.1)))
  rw [DataW.weights, ht]
  exact weightsEach_mem (i := i) (by simp [hfi]) (by simp [hlt]) m hm
theorem open_list {α : Type} {t e : TypeId} {C : Nat} {fuel : Nat} {cs : List Value} {x : DataW H × List MemPlace} (Pa : α → List Value → Prop) (ht : P.underlying t = some (.slice e)) (hC : P.cellsOf e = C) (hC0 : 0 < C)
    (h : DataW.trod enc P w 0 (fun _ => true) held fuel t cs = some x) (hw : Wok P t x.1) (ih : ∀ n, n < fuel → ∀ cs' y, DataW.trod enc P w 0 (fun _ => true) held n e cs' = some y → Wok P e y.1 → ∃ a, Pa a cs') :
    ∃ A c, ∃ l : List α, cs = [.slice A l.length c] ∧ (A = none → c = 0) ∧ l.length * P.bytesOf e ≤ reachBytes ∧ (l = [] ∨ ∃ b off, A = some ⟨b, off, none⟩ ∧ b < w.heap.size ∧ ∀ (i : Nat) x, l[i]? = some x → ∃ v, Lie w b (off + i * C) v ∧ Pa x v) := by
  rcases DataW.trod_slice ht h with ⟨rfl, rfl⟩ | ⟨a, len, cap, elems, rest, n, rfl, rfl, rfl, hb, hl, hm, hlen, hel, -, -⟩
  · exact ⟨none, 0, [], rfl, fun _ => rfl, by simp, .inl rfl⟩
  have hbytes : len * P.bytesOf e ≤ reachBytes := by
    have := hw ((elems.length + rest.length) * P.bytesOf e) (by show _ ∈ DataW.weights P t (.slice _ _); rw [DataW.weights, ht]; simp)
    rw [hlen] at this
    exact Nat.le_trans (Nat.mul_le_mul_right _ (Nat.le_add_right _ _)) this
  have key : ∀ i, i < len → ∃ v x, Pa x v ∧ v.length = C ∧ ∀ j, j < C → w.cell? (a.add (i * C + j)) = v[j]? := by
    intro i hi
    have h1 := hel i hi
    rw [List.getElem?_eq_getElem (by omega), hC] at h1
    obtain ⟨v, hv, hv2⟩ := Option.bind_eq_some_iff.1 h1
    obtain ⟨_, hvl, hvc⟩ := World.cells?_some hv
    obtain ⟨x, hx⟩ := ih n (by omega) v _ hv2 (fun m hm => hw m (by
      show m ∈ DataW.weights P t (.slice _ _)
      rw [DataW.weights, ht]
      exact List.mem_cons_of_mem _ (List.mem_append_left _ (weightsAll_mem (List.mem_map.2 ⟨elems[i], List.getElem_mem _, rfl⟩) m hm))))
    refine ⟨v, x, hx, hvl, fun j hj => ?_⟩
    have := hvc j hj
    rw [← Deep.add_add]
    exact this
  by_cases h0 : len = 0
  · subst h0
    exact ⟨some a, cap, [], rfl, by simp, by simp, .inl rfl⟩
  obtain ⟨v0, x0, _, hv0, hc0⟩ := key 0 (by omega)
  have hcell := hc0 0 hC0
  rw [List.getElem?_eq_getElem (by omega)] at hcell
  obtain ⟨b, off, spot⟩ := a
  have hself : Addr.add ⟨b, off, spot⟩ 0 = ⟨b, off, spot⟩ := by unfold Addr.add; simp
  have hspot : spot = none := by
    rw [show (0 * C + 0) = 0 by omega, hself] at hcell
    unfold World.cell? at hcell
    simp only at hcell
    split at hcell
    · cases spot with
      | none => rfl
      | some s => simp at hcell
    · cases hcell
  subst hspot
  have hadd : ∀ k, (Addr.add ⟨b, off, none⟩ k) = ⟨b, off + k, none⟩ := fun k => by unfold Addr.add; by_cases hk : k = 0 <;> simp [hk]
  rw [hadd] at hcell
  obtain ⟨l, hll, hlq⟩ := list_of (Q := fun i (x : α) => ∃ v, Lie w b (off + i * C) v ∧ Pa x v) (n := len) fun i hi => by
    obtain ⟨v, x, hx, hvl, hc⟩ := key i hi
    refine ⟨x, v, fun j y hj => ?_, hx⟩
    have hjl : j < C := by rw [← hvl]; exact (List.getElem?_eq_some_iff.1 hj).1
    have := hc j hjl
    rw [hadd, hj] at this
    rw [Nat.add_assoc]
    exact this
  exact ⟨_, cap, l, by rw [hll], by simp, by rw [hll]; exact hbytes, .inr ⟨b, off, rfl, World.block_lt_of_cell? _ _ hcell, hlq⟩⟩
end
theorem str_wok {H : Type} {P : Program} {t : TypeId} {s : ByteArray} (h : Wok (H := H) P t (.lit (.string s.data.toList))) : s.size ≤ 140737488351232 := by
  have := h s.data.toList.length (by rw [DataW.weights]; simp)
  simpa [reachBytes] using this
theorem i64_wf {n : Int} (h : (Lit.int .i64 n).wf = true) : i64B n := by
  simp [Lit.wf, IntKind.min, IntKind.max, IntKind.signed, IntKind.bits] at h
  exact h
theorem u64_wf {n : Int} (h : (Lit.int .u64 n).wf = true) : 0 ≤ n ∧ n ≤ 18446744073709551615 := by
  simp [Lit.wf, IntKind.min, IntKind.max, IntKind.signed, IntKind.bits] at h
  exact h
theorem u8_wf {n : Int} (h : (Lit.int .u8 n).wf = true) : ∃ u : UInt8, n = (u.toNat : Int) := by
  simp [Lit.wf, IntKind.min, IntKind.max, IntKind.signed, IntKind.bits] at h
  refine ⟨UInt8.ofNat n.toNat, ?_⟩
  rw [UInt8.toNat_ofNat']
  omega
section
variable {H : Type} {enc : TypeId × Value → H} {w : World} {held : Bool}
theorem open_bytes {fuel : Nat} {cs : List Value} {x : DataW H × List MemPlace} (h : DataW.trod enc Tryz.prog w 0 (fun _ => true) held fuel 23 cs = some x) (hw : Wok Tryz.prog 23 x.1) :
    ∃ A c, ∃ l : List UInt8, cs = [.slice A l.length c] ∧ (A = none → c = 0) ∧ l.length ≤ 140737488351232 ∧ ByteRow w (fun b => b < w.heap.size) A l := by
  obtain ⟨A, c, l, h1, h2, h3, h4⟩ := open_list (α := UInt8) (C := 1) (fun u v => v = [.int .u8 (u.toNat : Int)]) Tryz.underlying23 (by kernel_rfl) (by omega) h hw (fun n _ cs' y hy _ => by
    obtain ⟨m, rfl, _, hwf⟩ := DataW.trod_int Tryz.underlying5 hy
    obtain ⟨u, rfl⟩ := u8_wf hwf
    exact ⟨u, rfl⟩)
  have hb : Tryz.prog.bytesOf 5 = 1 := by kernel_rfl
  rw [hb, Nat.mul_one] at h3
  refine ⟨A, c, l, h1, h2, h3, h4.imp id ?_⟩
  rintro ⟨b, off, hA, hlt, hr⟩
  refine ⟨b, off, hA, hlt, fun i x hx => ?_⟩
  obtain ⟨v, hv, rfl⟩ := hr i x hx
  have := hv 0 _ rfl
  simpa using this
theorem eleven_of {cs : List Value} (h : cs.length = 11) : ∃ c0 c1 c2 c3 c4 c5 c6 c7 c8 c9 c10, cs = [c0, c1, c2, c3, c4, c5, c6, c7, c8, c9, c10] := by
  match cs, h with
  | [c0, c1, c2, c3, c4, c5, c6, c7, c8, c9, c10], _ => exact ⟨c0, c1, c2, c3, c4, c5, c6, c7, c8, c9, c10, rfl⟩
end
end Go.Proofs.YtobpkelblpdajaaGreatDoor
