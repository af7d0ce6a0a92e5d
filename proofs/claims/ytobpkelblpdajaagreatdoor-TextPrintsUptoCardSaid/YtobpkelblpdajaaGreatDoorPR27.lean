/- Walks: the document's Quote and breaks. -/
import Derived.Test.YtobpkelblpdajaaGreatDoorPR26
set_option linter.unusedVariables false
set_option linter.unusedSimpArgs false
set_option linter.unusedSectionVars false
namespace Go.Proofs.YtobpkelblpdajaaGreatDoor
open Go Go.RowKit
theorem esc_not {c : UInt8} (h1 : c.toNat ≠ 34) (h2 : c.toNat ≠ 92) (h3 : c.toNat ≠ 10) (h4 : c.toNat ≠ 9) (h5 : c.toNat ≠ 13) : escB c = if c.toNat < 32 ∨ 126 < c.toNat then [92, 120, hexc (c.toNat / 16), hexc (c.toNat % 16)] else [c] := by
  unfold escB
  rw [if_neg (by rintro (rfl | rfl) <;> simp at h1 h2), if_neg (by rintro rfl; simp at h3), if_neg (by rintro rfl; simp at h4), if_neg (by rintro rfl; simp at h5)]
def RQ (t : ByteArray) (w : World) (g : Nat) (v i : Value) (wr : World) : Prop := ∃ k : Nat, i = .int .i64 k ∧ k + g = t.size ∧ OwnB wr w.heap.size v (34 :: (t.data.toList.take k).flatMap escB) ∧ Below w.heap.size w wr
theorem RQ.step {t : ByteArray} {w w1 w2 : World} {g k n : Nat} {c : UInt8} {news : List Value} {l m : List UInt8} {v v2 : Value} {o : Obj} (hl : l = 34 :: (t.data.toList.take k).flatMap escB) (hm : m = escB c) (hk : t.data.toList[k]? = some c) (hkg : k + (g + 1) = t.size)
    (hn : n = m.length) (hnews : news = Lib.byteCells m) (hown : OwnB w1 w.heap.size v l) (hb : Below w.heap.size w w1) (hg : (w1.alloc o).grownBy w2 v.ownBlock) (h : w2.ownsRow w.heap.size 5 1 v2 (l.length + n) (Lib.byteCells l ++ news)) :
    RQ t w g v2 (.int .i64 ((k : Int) + 1)) w2 := by
  refine ⟨k + 1, by simp, by omega, ?_, hb.trans (grown_below hown hb.size hg)⟩
  have h2 := OwnB.app hn hnews h
  rw [List.take_add_one, hk]
  subst hl
  subst hm
  simpa using h2
theorem RQ.step2 {t : ByteArray} {w w1 w2 : World} {g k n : Nat} {c : UInt8} {news : List Value} {l m : List UInt8} {v v2 : Value} {o : Obj} (hl : l = 34 :: (t.data.toList.take k).flatMap escB) (hm : m = escB c) (hk : t.data.toList[k]? = some c) (hkg : k + (g + 1) = t.size)
    (hn : n = m.length) (hnews : news = Lib.byteCells m) (hown : OwnB w1 w.heap.size v l) (hb : Below w.heap.size w w1) (hg : (w1.alloc o).drew.grownBy w2 v.ownBlock) (h : w2.ownsRow w.heap.size 5 1 v2 (l.length + n) (Lib.byteCells l ++ news)) :
    RQ t w g v2 (.int .i64 ((k : Int) + 1)) w2 := by
  refine ⟨k + 1, by simp, by omega, ?_, ((hb.alloc hb.size _).drew).grown hg (by have := hb.size; simp; omega) (fun j hj => (World.ownsRow.lt hown j hj).1)⟩
  have h2 := OwnB.app hn hnews h
  rw [List.take_add_one, hk]
  subst hl
  subst hm
  simpa using h2
theorem hex_rem (w : World) {n : Int} {c : UInt8} (hn : n = (c.toNat : Int)) : (Instr.index 9 (.string ⟨#[48, 49, 50, 51, 52, 53, 54, 55, 56, 57, 97, 98, 99, 100, 101, 102]⟩) (.int .u8 (n % 16))).run Tryz.prog w = .ok (.int .u8 (hexc (c.toNat % 16)).toNat) w := by
  subst hn
  have h : c.toNat % 16 < 16 := Nat.mod_lt _ (by decide)
  rw [show ((c.toNat : Int) % 16) = ((c.toNat % 16 : Nat) : Int) by omega]
  generalize c.toNat % 16 = n at *
  have h2 : n = 0 ∨ n = 1 ∨ n = 2 ∨ n = 3 ∨ n = 4 ∨ n = 5 ∨ n = 6 ∨ n = 7 ∨ n = 8 ∨ n = 9 ∨ n = 10 ∨ n = 11 ∨ n = 12 ∨ n = 13 ∨ n = 14 ∨ n = 15 := by omega
  rcases h2 with rfl | rfl | rfl | rfl | rfl | rfl | rfl | rfl | rfl | rfl | rfl | rfl | rfl | rfl | rfl | rfl <;> (simp [go_sem, hexc]; rfl)
set_option maxRecDepth 100000 in
set_option maxHeartbeats 8000000 in
theorem rquote_any (t : ByteArray) (w : World) (hl : t.size ≤ 34359738368) : Calls Tryz.prog 37 #[.string t] w (TextPost (quoteB t.data.toList) w) := by
  obtain ⟨i0, hi0, hz0, hz1, hz2⟩ := info_parts Tryz.infoByte
  go_enter Tryz.func37, Tryz.ntmps37
  go_wp2
  go_loopg [3, 4] t.size (fun g v i wr => RQ t w g v i wr)
  case atStart =>
    refine ⟨0, rfl, by omega, ?_, (Below.refl _ _).alloc (Nat.le_refl _) _⟩
    exact World.ownsRow_lit w #[.int .u8 34] 1 (Nat.le_refl _) (by decide) rfl
  case round =>
    obtain ⟨k, rfl, hkg, hown, hb⟩ := hrel
    have hsz := hb.size
    have hfl := flat_len (t.data.toList.take k)
    have htk : (t.data.toList.take k).length ≤ t.size := by rw [List.length_take]; simp; omega
    have hn5 : (34 :: (t.data.toList.take k).flatMap escB).length ≤ 137438953473 := by rw [List.length_cons]; omega
    obtain ⟨l, hl5⟩ : ∃ l, l = 34 :: (t.data.toList.take k).flatMap escB := ⟨_, rfl⟩
    rw [← hl5] at hown hn5
    have HL := Lib.hid hl5
    clear hl5 hfl htk
    obtain ⟨A1, c1, rfl⟩ := ownsRow_form hown
    cases gk with
    | zero =>
      have hk : ¬ ((k : Int) < (t.size : Int)) := by omega
      have HT : Hid (quoteB t.data.toList = l ++ [34]) := Lib.hid (by rw [HL.out, List.take_of_length_le (by simp; omega)]; rfl)
      go_wp2_with (at_builtin; refine wpList_append_own _ rfl (.tmp 65) (.tmp 66) 23 rfl (w.heap.size) 5 i0 _ 1 1 Tryz.underlying23 hi0 hz0 hz1 hz2 rfl (by omega) (.slice A1 l.length c1) l.length _ rfl (World.ownsRow.alloc hown _) ⟨wr.heap.size, 0, none⟩ 1 1 [_] rfl rfl (news_at rfl) (one_of1 rfl) (by unfold maxLen; omega) (by omega) (by simp; omega) ?_; intro v2 w2 hn2 hg2 _; refine Hid.out ?_)
      have ho2 := OwnB.app (m := [34]) rfl rfl hn2
      have hcv := conv_any ho2
      have HB : Hid (Below w.heap.size w w2) := Lib.hid (hb.trans (grown_below hown hsz hg2))
      obtain ⟨A2, c2, rfl⟩ := ownsRow_form ho2
      clear hn2 hg2 hown hb ho2
      generalize l ++ [34] = l2 at *
      refine Lib.hid ?_
      go_wp2
      go_ret
      exact ⟨by rw [HT.out]; rfl, HB.out⟩
    | succ g =>
      have hk : (k : Int) < (t.size : Int) := by omega
      have hkn : k < t.size := by omega
      obtain ⟨c, hck⟩ : ∃ c, t.data.toList[k]? = some c := ⟨_, List.getElem?_eq_getElem (by simp; omega)⟩
      have hidx : ∀ h, t[k]'h = c := fun h => by
        have : t.data.toList[k]? = some (t[k]'h) := by rw [List.getElem?_eq_getElem (by simp; omega)]; rfl
        rw [this] at hck; exact Option.some.inj hck
      obtain ⟨n, hn⟩ : ∃ n : Int, n = (c.toNat : Int) := ⟨_, rfl⟩
      have h0 : 0 ≤ n := by omega
      have h256 : n < 256 := by have := c.toNat_lt; omega
      have HN := Lib.hid hn
      have HK := Lib.hid hck
      have hix : (Instr.index 9 (.string t) (.int .i64 (k : Int))).run Tryz.prog wr = .ok (.int .u8 n) wr := by simp [go_sem, hkn, hidx, hn]
      clear hn hck hidx
      by_cases h34 : n = 34
      · have hc : c = 34 := UInt8.toNat_inj.1 (by have := HN.out; show c.toNat = 34; omega)
        have e34 : (n == 34) = true := by rw [beq_iff_eq]; omega
        have HM : Hid ([92, 34] = escB c) := Lib.hid (by rw [hc]; rfl)
        have HC := Lib.hid hc
        clear hc h34
        go_wp2_with (at_builtin; refine wpList_append_own _ rfl (.tmp 27) (.tmp 29) 23 rfl (w.heap.size) 5 i0 _ 1 1 Tryz.underlying23 hi0 hz0 hz1 hz2 rfl (by omega) (.slice A1 l.length c1) l.length _ rfl (World.ownsRow.alloc hown _) ⟨wr.heap.size, 0, none⟩ 2 2 [_, _] rfl rfl (news_at rfl) (one_of2 rfl rfl) (by unfold maxLen; omega) (by omega) (by simp; omega) ?_; intro v2 w2 hn2 hg2 _; refine Hid.out ?_)
        obtain ⟨A2, c2, hv2⟩ := ownsRow_form (OwnB.app (m := [92, 34]) rfl (by first | (rw [HN.out, HC.out]; rfl) | rfl) hn2)
        have HR : Hid (RQ t w g v2 (.int .i64 ((k : Int) + 1)) w2) := Lib.hid (RQ.step HL.out HM.out HK.out (by omega) rfl (by first | (rw [HN.out, HC.out]; rfl) | rfl) hown hb hg2 hn2)
        subst hv2
        clear hn2 hg2 hown hb
        refine Lib.hid ?_
        go_wp2_with fail
        go_roundg g
        case rel => first | exact HR.out | (have h := HR.out; rw [List.length_append] at h; exact h)
        case measure => omega
      · by_cases h92 : n = 92
        · have hc : c = 92 := UInt8.toNat_inj.1 (by have := HN.out; show c.toNat = 92; omega)
          have e34 : (n == 34) = false := by rw [beq_eq_false_iff_ne]; omega
          have e92 : (n == 92) = true := by rw [beq_iff_eq]; omega
          have HM : Hid ([92, 92] = escB c) := Lib.hid (by rw [hc]; rfl)
          have HC := Lib.hid hc
          clear hc h92
          go_wp2_with (at_builtin; refine wpList_append_own _ rfl (.tmp 27) (.tmp 29) 23 rfl (w.heap.size) 5 i0 _ 1 1 Tryz.underlying23 hi0 hz0 hz1 hz2 rfl (by omega) (.slice A1 l.length c1) l.length _ rfl (World.ownsRow.alloc hown _) ⟨wr.heap.size, 0, none⟩ 2 2 [_, _] rfl rfl (news_at rfl) (one_of2 rfl rfl) (by unfold maxLen; omega) (by omega) (by simp; omega) ?_; intro v2 w2 hn2 hg2 _; refine Hid.out ?_)
          obtain ⟨A2, c2, hv2⟩ := ownsRow_form (OwnB.app (m := [92, 92]) rfl (by first | (rw [HN.out, HC.out]; rfl) | rfl) hn2)
          have HR : Hid (RQ t w g v2 (.int .i64 ((k : Int) + 1)) w2) := Lib.hid (RQ.step HL.out HM.out HK.out (by omega) rfl (by first | (rw [HN.out, HC.out]; rfl) | rfl) hown hb hg2 hn2)
          subst hv2
          clear hn2 hg2 hown hb
          refine Lib.hid ?_
          go_wp2_with fail
          go_roundg g
          case rel => first | exact HR.out | (have h := HR.out; rw [List.length_append] at h; exact h)
          case measure => omega
        · by_cases h10 : n = 10
          · have hc : c = 10 := UInt8.toNat_inj.1 (by have := HN.out; show c.toNat = 10; omega)
            have e34 : (n == 34) = false := by rw [beq_eq_false_iff_ne]; omega
            have e92 : (n == 92) = false := by rw [beq_eq_false_iff_ne]; omega
            have e10 : (n == 10) = true := by rw [beq_iff_eq]; omega
            have HM : Hid ([92, 110] = escB c) := Lib.hid (by rw [hc]; rfl)
            have HC := Lib.hid hc
            clear hc h10
            go_wp2_with (at_builtin; refine wpList_append_own _ rfl (.tmp 34) (.tmp 35) 23 rfl (w.heap.size) 5 i0 _ 1 1 Tryz.underlying23 hi0 hz0 hz1 hz2 rfl (by omega) (.slice A1 l.length c1) l.length _ rfl (World.ownsRow.alloc hown _) ⟨wr.heap.size, 0, none⟩ 2 2 [_, _] rfl rfl (news_at rfl) (one_of2 rfl rfl) (by unfold maxLen; omega) (by omega) (by simp; omega) ?_; intro v2 w2 hn2 hg2 _; refine Hid.out ?_)
            obtain ⟨A2, c2, hv2⟩ := ownsRow_form (OwnB.app (m := [92, 110]) rfl (by first | (rw [HN.out, HC.out]; rfl) | rfl) hn2)
            have HR : Hid (RQ t w g v2 (.int .i64 ((k : Int) + 1)) w2) := Lib.hid (RQ.step HL.out HM.out HK.out (by omega) rfl (by first | (rw [HN.out, HC.out]; rfl) | rfl) hown hb hg2 hn2)
            subst hv2
            clear hn2 hg2 hown hb
            refine Lib.hid ?_
            go_wp2_with fail
            go_roundg g
            case rel => first | exact HR.out | (have h := HR.out; rw [List.length_append] at h; exact h)
            case measure => omega
          · by_cases h9 : n = 9
            · have hc : c = 9 := UInt8.toNat_inj.1 (by have := HN.out; show c.toNat = 9; omega)
              have e34 : (n == 34) = false := by rw [beq_eq_false_iff_ne]; omega
              have e92 : (n == 92) = false := by rw [beq_eq_false_iff_ne]; omega
              have e10 : (n == 10) = false := by rw [beq_eq_false_iff_ne]; omega
              have e9 : (n == 9) = true := by rw [beq_iff_eq]; omega
              have HM : Hid ([92, 116] = escB c) := Lib.hid (by rw [hc]; rfl)
              have HC := Lib.hid hc
              clear hc h9
              go_wp2_with (at_builtin; refine wpList_append_own _ rfl (.tmp 40) (.tmp 41) 23 rfl (w.heap.size) 5 i0 _ 1 1 Tryz.underlying23 hi0 hz0 hz1 hz2 rfl (by omega) (.slice A1 l.length c1) l.length _ rfl (World.ownsRow.alloc hown _) ⟨wr.heap.size, 0, none⟩ 2 2 [_, _] rfl rfl (news_at rfl) (one_of2 rfl rfl) (by unfold maxLen; omega) (by omega) (by simp; omega) ?_; intro v2 w2 hn2 hg2 _; refine Hid.out ?_)
              obtain ⟨A2, c2, hv2⟩ := ownsRow_form (OwnB.app (m := [92, 116]) rfl (by first | (rw [HN.out, HC.out]; rfl) | rfl) hn2)
              have HR : Hid (RQ t w g v2 (.int .i64 ((k : Int) + 1)) w2) := Lib.hid (RQ.step HL.out HM.out HK.out (by omega) rfl (by first | (rw [HN.out, HC.out]; rfl) | rfl) hown hb hg2 hn2)
              subst hv2
              clear hn2 hg2 hown hb
              refine Lib.hid ?_
              go_wp2_with fail
              go_roundg g
              case rel => first | exact HR.out | (have h := HR.out; rw [List.length_append] at h; exact h)
              case measure => omega
            · by_cases h13 : n = 13
              · have hc : c = 13 := UInt8.toNat_inj.1 (by have := HN.out; show c.toNat = 13; omega)
                have e34 : (n == 34) = false := by rw [beq_eq_false_iff_ne]; omega
                have e92 : (n == 92) = false := by rw [beq_eq_false_iff_ne]; omega
                have e10 : (n == 10) = false := by rw [beq_eq_false_iff_ne]; omega
                have e9 : (n == 9) = false := by rw [beq_eq_false_iff_ne]; omega
                have e13 : (n == 13) = true := by rw [beq_iff_eq]; omega
                have HM : Hid ([92, 114] = escB c) := Lib.hid (by rw [hc]; rfl)
                have HC := Lib.hid hc
                clear hc h13
                go_wp2_with (at_builtin; refine wpList_append_own _ rfl (.tmp 46) (.tmp 47) 23 rfl (w.heap.size) 5 i0 _ 1 1 Tryz.underlying23 hi0 hz0 hz1 hz2 rfl (by omega) (.slice A1 l.length c1) l.length _ rfl (World.ownsRow.alloc hown _) ⟨wr.heap.size, 0, none⟩ 2 2 [_, _] rfl rfl (news_at rfl) (one_of2 rfl rfl) (by unfold maxLen; omega) (by omega) (by simp; omega) ?_; intro v2 w2 hn2 hg2 _; refine Hid.out ?_)
                obtain ⟨A2, c2, hv2⟩ := ownsRow_form (OwnB.app (m := [92, 114]) rfl (by first | (rw [HN.out, HC.out]; rfl) | rfl) hn2)
                have HR : Hid (RQ t w g v2 (.int .i64 ((k : Int) + 1)) w2) := Lib.hid (RQ.step HL.out HM.out HK.out (by omega) rfl (by first | (rw [HN.out, HC.out]; rfl) | rfl) hown hb hg2 hn2)
                subst hv2
                clear hn2 hg2 hown hb
                refine Lib.hid ?_
                go_wp2_with fail
                go_roundg g
                case rel => first | exact HR.out | (have h := HR.out; rw [List.length_append] at h; exact h)
                case measure => omega
              · have e34 : (n == 34) = false := by rw [beq_eq_false_iff_ne]; omega
                have e92 : (n == 92) = false := by rw [beq_eq_false_iff_ne]; omega
                have e10 : (n == 10) = false := by rw [beq_eq_false_iff_ne]; omega
                have e9 : (n == 9) = false := by rw [beq_eq_false_iff_ne]; omega
                have e13 : (n == 13) = false := by rw [beq_eq_false_iff_ne]; omega
                have HS : Hid (escB c = if c.toNat < 32 ∨ 126 < c.toNat then [92, 120, hexc (c.toNat / 16), hexc (c.toNat % 16)] else [c]) := Lib.hid (esc_not (by have := HN.out; omega) (by have := HN.out; omega) (by have := HN.out; omega) (by have := HN.out; omega) (by have := HN.out; omega))
                clear h34 h92 h10 h9 h13
                by_cases hlo : n < 32
                · have HM : Hid ([92, 120, hexc (c.toNat / 16), hexc (c.toNat % 16)] = escB c) := Lib.hid (by rw [HS.out, if_pos (by have := HN.out; omega)])
                  have k1 := fun (W : World) => hex_hi W HN.out
                  have k2 := fun (W : World) => hex_rem W HN.out
                  have q1 : n.tdiv 16 = n / 16 := Int.tdiv_eq_ediv_of_nonneg h0
                  have q2 : IntKind.u8.wrap (n / 16) = n / 16 := by rw [IntKind.wrap_u8]; omega
                  have q3 : n.tmod 16 = n % 16 := Int.tmod_eq_emod_of_nonneg h0
                  have q4 : IntKind.u8.wrap (n % 16) = n % 16 := by rw [IntKind.wrap_u8]; omega
                  go_wp2_with fail
                  refine wp_region_heldS (fun _ => True) 7 (by kernel_rfl) (by kernel_rfl) (fun _ _ _ _ _ h => h) ?_ ?_
                  · ((trivial))
                  simp only [List.take_succ_cons, List.take_zero]
                  repeat (refine HdS.step (fun K hK => ?_); go_simp; first | (refine hK _ ?_; clear hK K) | (apply Exists.intro; refine ⟨fun W hW => ?_, hK _ ?_⟩; (first | (intros; rfl) | ((rfl))); clear hK K))
                  refine HdS.nil ?_
                  simp only [List.drop_succ_cons, List.drop_zero]
                  refine SeqS.step (fun K hK => ?_)
                  go_simp
                  refine hK _ _ trivial ?_
                  clear hK K
                  refine SeqS.step (fun K hK => ?_)
                  refine wp_append_own _ (.tmp 56) (.tmp 63) 23 rfl w.heap.size 5 i0 _ 1 1 Tryz.underlying23 hi0 hz0 hz1 hz2 rfl (by omega) (.slice A1 l.length c1) l.length _ rfl (World.ownsRow.drew (World.ownsRow.alloc hown _)) ⟨wr.heap.size, 0, none⟩ 4 4 [_, _, _, _] rfl rfl (news_at rfl) one_four (by unfold maxLen; omega) (by omega) (by simp; omega) ?_
                  intro v2 w2 hn2 hg2 _
                  obtain ⟨A2, c2, hv2⟩ := ownsRow_form (OwnB.app (m := [92, 120, hexc (c.toNat / 16), hexc (c.toNat % 16)]) rfl rfl hn2)
                  have HR : Hid (RQ t w g v2 (.int .i64 ((k : Int) + 1)) w2) := Lib.hid (RQ.step2 HL.out HM.out HK.out (by omega) rfl rfl hown hb hg2 hn2)
                  subst hv2
                  refine hK _ _ trivial ?_
                  clear hK K hn2 hg2 hown hb k1 k2 q1 q2 q3 q4
                  refine SeqS.step (fun K hK => ?_)
                  go_simp
                  refine hK _ _ trivial ?_
                  clear hK K
                  refine SeqS.nil ?_
                  go_wp2_with fail
                  go_roundg g
                  case rel => first | exact HR.out | (have h := HR.out; rw [List.length_append] at h; exact h)
                  case measure => omega
                · by_cases hhi : 126 < n
                  · have HM : Hid ([92, 120, hexc (c.toNat / 16), hexc (c.toNat % 16)] = escB c) := Lib.hid (by rw [HS.out, if_pos (by have := HN.out; omega)])
                    have k1 := fun (W : World) => hex_hi W HN.out
                    have k2 := fun (W : World) => hex_rem W HN.out
                    have q1 : n.tdiv 16 = n / 16 := Int.tdiv_eq_ediv_of_nonneg h0
                    have q2 : IntKind.u8.wrap (n / 16) = n / 16 := by rw [IntKind.wrap_u8]; omega
                    have q3 : n.tmod 16 = n % 16 := Int.tmod_eq_emod_of_nonneg h0
                    have q4 : IntKind.u8.wrap (n % 16) = n % 16 := by rw [IntKind.wrap_u8]; omega
                    go_wp2_with fail
                    refine wp_region_heldS (fun _ => True) 7 (by kernel_rfl) (by kernel_rfl) (fun _ _ _ _ _ h => h) ?_ ?_
                    · ((trivial))
                    simp only [List.take_succ_cons, List.take_zero]
                    repeat (refine HdS.step (fun K hK => ?_); go_simp; first | (refine hK _ ?_; clear hK K) | (apply Exists.intro; refine ⟨fun W hW => ?_, hK _ ?_⟩; (first | (intros; rfl) | ((rfl))); clear hK K))
                    refine HdS.nil ?_
                    simp only [List.drop_succ_cons, List.drop_zero]
                    refine SeqS.step (fun K hK => ?_)
                    go_simp
                    refine hK _ _ trivial ?_
                    clear hK K
                    refine SeqS.step (fun K hK => ?_)
                    refine wp_append_own _ (.tmp 56) (.tmp 63) 23 rfl w.heap.size 5 i0 _ 1 1 Tryz.underlying23 hi0 hz0 hz1 hz2 rfl (by omega) (.slice A1 l.length c1) l.length _ rfl (World.ownsRow.drew (World.ownsRow.alloc hown _)) ⟨wr.heap.size, 0, none⟩ 4 4 [_, _, _, _] rfl rfl (news_at rfl) one_four (by unfold maxLen; omega) (by omega) (by simp; omega) ?_
                    intro v2 w2 hn2 hg2 _
                    obtain ⟨A2, c2, hv2⟩ := ownsRow_form (OwnB.app (m := [92, 120, hexc (c.toNat / 16), hexc (c.toNat % 16)]) rfl rfl hn2)
                    have HR : Hid (RQ t w g v2 (.int .i64 ((k : Int) + 1)) w2) := Lib.hid (RQ.step2 HL.out HM.out HK.out (by omega) rfl rfl hown hb hg2 hn2)
                    subst hv2
                    refine hK _ _ trivial ?_
                    clear hK K hn2 hg2 hown hb k1 k2 q1 q2 q3 q4
                    refine SeqS.step (fun K hK => ?_)
                    go_simp
                    refine hK _ _ trivial ?_
                    clear hK K
                    refine SeqS.nil ?_
                    go_wp2_with fail
                    go_roundg g
                    case rel => first | exact HR.out | (have h := HR.out; rw [List.length_append] at h; exact h)
                    case measure => omega
                  · have HM : Hid ([c] = escB c) := Lib.hid (by rw [HS.out, if_neg (by have := HN.out; omega)])
                    go_wp2_with (at_builtin; refine wpList_append_own _ rfl (.tmp 16) (.tmp 18) 23 rfl (w.heap.size) 5 i0 _ 1 1 Tryz.underlying23 hi0 hz0 hz1 hz2 rfl (by omega) (.slice A1 l.length c1) l.length _ rfl (World.ownsRow.alloc hown _) ⟨wr.heap.size, 0, none⟩ 1 1 [_] rfl rfl (news_at rfl) (one_of1 rfl) (by unfold maxLen; omega) (by omega) (by simp; omega) ?_; intro v2 w2 hn2 hg2 _; refine Hid.out ?_)
                    obtain ⟨A2, c2, hv2⟩ := ownsRow_form (OwnB.app (m := [c]) rfl (by rw [HN.out]; rfl) hn2)
                    have HR : Hid (RQ t w g v2 (.int .i64 ((k : Int) + 1)) w2) := Lib.hid (RQ.step HL.out HM.out HK.out (by omega) rfl (by rw [HN.out]; rfl) hown hb hg2 hn2)
                    subst hv2
                    clear hn2 hg2 hown hb
                    refine Lib.hid ?_
                    go_wp2_with fail
                    go_roundg g
                    case rel => first | exact HR.out | (have h := HR.out; rw [List.length_append] at h; exact h)
                    case measure => omega
def brkT (ln : Bool) (d : Nat) : List UInt8 := if ln = true then 10 :: List.replicate (2 * d) 32 else []
set_option maxRecDepth 100000 in
set_option maxHeartbeats 2000000 in
theorem breaks_any (ln : Bool) (d : Nat) (hd : d ≤ 100) (w : World) : Calls Tryz.prog 124 #[.bool ln, .int .i64 d] w (XPost w.heap.size (brkT ln d) w) := by
  obtain ⟨i0, hi0, hz0, hz1, hz2⟩ := info_parts Tryz.infoByte
  cases ln with
  | false =>
    go_enter Tryz.func124, Tryz.ntmps124
    go_wp2
    go_ret
    exact ⟨_, rfl, OwnB.nil _ _, Below.refl _ _⟩
  | true =>
    have HT : Hid (brkT true d = 10 :: List.replicate (2 * d) 32) := Lib.hid rfl
    go_enter Tryz.func124, Tryz.ntmps124
    go_wp2
    go_loopg [5, 6] d (fun g v i wr => ∃ k : Nat, i = .int .i64 k ∧ k + g = d ∧ OwnB wr w.heap.size v (10 :: List.replicate (2 * k) 32) ∧ Below w.heap.size w wr)
    case atStart => exact ⟨0, rfl, by omega, World.ownsRow_lit w #[.int .u8 10] 1 (Nat.le_refl _) (by decide) rfl, (Below.refl _ _).alloc (Nat.le_refl _) _⟩
    case round =>
      obtain ⟨k, rfl, hkg, hown, hb⟩ := hrel
      have hsz := hb.size
      have hn5 : (10 :: List.replicate (2 * k) (32 : UInt8)).length ≤ 1000 := by rw [List.length_cons, List.length_replicate]; omega
      cases gk with
      | zero =>
        obtain rfl : k = d := by omega
        rw [← HT.out] at hown
        generalize brkT true k = l at *
        go_wp2
        go_ret
        exact ⟨_, rfl, hown, hb⟩
      | succ g =>
        have hk : (k : Int) < (d : Int) := by omega
        have HS : Hid ((10 :: List.replicate (2 * k) (32 : UInt8)) ++ [32, 32] = 10 :: List.replicate (2 * (k + 1)) 32) := Lib.hid (by rw [show 2 * (k + 1) = 2 * k + 1 + 1 by omega, List.replicate_succ', List.replicate_succ']; simp)
        obtain ⟨l, hl⟩ : ∃ l, l = (10 :: List.replicate (2 * k) (32 : UInt8)) := ⟨_, rfl⟩
        rw [← hl] at hown hn5 HS
        clear hl
        obtain ⟨A1, c1, rfl⟩ := ownsRow_form hown
        go_wp2_with (at_builtin; refine wpList_append_own _ rfl (.tmp 15) (.tmp 16) 23 rfl (w.heap.size) 5 i0 _ 1 1 Tryz.underlying23 hi0 hz0 hz1 hz2 rfl (by omega) (.slice A1 l.length c1) l.length _ rfl (World.ownsRow.alloc hown _) ⟨wr.heap.size, 0, none⟩ 2 2 [_, _] rfl rfl (news_at rfl) (one_of2 rfl rfl) (by unfold maxLen; omega) (by omega) (by simp; omega) ?_; intro v2 w2 hn2 hg2 _; refine Hid.out ?_)
        have ho2 := OwnB.app (m := [32, 32]) rfl rfl hn2
        rw [HS.out] at ho2
        have HB : Hid (Below w.heap.size w w2) := Lib.hid (hb.trans (grown_below hown hsz hg2))
        have HO : Hid (OwnB w2 w.heap.size v2 (10 :: List.replicate (2 * (k + 1)) 32)) := Lib.hid ho2
        obtain ⟨A2, c2, hv2⟩ := ownsRow_form ho2
        subst hv2
        clear hn2 hg2 hown hb ho2
        refine Lib.hid ?_
        go_wp2_with fail
        go_roundg g
        case rel => exact ⟨k + 1, by go_num, by omega, by have h := HO.out; simpa using h, HB.out⟩
        case measure => omega
end Go.Proofs.YtobpkelblpdajaaGreatDoor
