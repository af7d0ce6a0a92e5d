/- Walks: value.loose of a list, of no kind; value.loose. -/
import Derived.Test.YtobpkelblpdajaaGreatDoorNL18
set_option linter.unusedVariables false
set_option linter.unusedSimpArgs false
set_option linter.unusedSectionVars false
namespace Go.Proofs.YtobpkelblpdajaaGreatDoor
open Go Go.RowKit
set_option maxRecDepth 100000 in
set_option maxHeartbeats 1000000 in
theorem loose_8 (b : Bool) (i : Int) (f : Nat) (t : ByteArray) (bs : List UInt8) (r : Int) (l : List Tm) (d : List (ByteArray × Tm)) (c : ByteArray) (v : Int) (ih : ∀ x ∈ l, LooseC x) : LooseC (.mk 8 b i f t bs r l d c v) := by
  rintro x w ⟨Ab, cb, Al, cl, Ad, cd, rfl, hk, hi, ht, hbl, ⟨hbn, hbs⟩, hr0, hr1, hc, hv, ⟨hll, hl⟩, ⟨hdl, hd⟩⟩
  obtain ⟨i0, hi0, hz0, hz1, hz2⟩ := info_parts Tryz.infoAny
  have HA : Hid (Below w.heap.size w (w.alloc (.cells #[.int .i64 8, .bool b, .int .i64 i, .float .f64 f, .string t, .slice Ab bs.length cb, .int .u64 r, .slice Al l.length cl, .slice Ad d.length cd, .string c, .int .i64 v] 29))) := Lib.hid ((Below.refl _ _).alloc (Nat.le_refl _) _)
  clear hbs hd
  unfold termOf
  go_enter Tryz.func160, Tryz.ntmps160
  go_wp2_with (at_make; go_must (refine wpList_make_own _ rfl _ _ 43 rfl (w.heap.size + 1) 20 i0 _ 1 Tryz.underlying43 hi0 hz0 hz1 .i64 .i64 _ l.length rfl rfl rfl (by rw [hz2]; omega) (by simp only [maxLen]; omega) (by simp) ?_); intro w0 hown0 hg0; have hb0 : Below (w.heap.size + 1) (w.alloc (.cells #[.int .i64 8, .bool b, .int .i64 i, .float .f64 f, .string t, .slice Ab bs.length cb, .int .u64 r, .slice Al l.length cl, .slice Ad d.length cd, .string c, .int .i64 v] 29)) w0 := (Below.refl _ _).grown hg0 (by simp) (fun _ h => by cases h); have c70 : w0.cell? ⟨w.heap.size, 7, none⟩ = some (.slice Al l.length cl) := (hb0.cell (p := ⟨w.heap.size, 7, none⟩) (Nat.lt_succ_self _)).trans (by simp [go_sem]))
  have hO0 : OwnV (fun b => w.heap.size + 1 ≤ b) w0 (w.heap.size + 1) (.slice (some ⟨w.heap.size + 1, 0, none⟩) 0 l.length) [] := ⟨[], by simpa using hown0, fun i x h => by simp at h⟩
  go_loopw [3, 51] (fun y j wr => ∃ k : Nat, j = .int .i64 k ∧ k ≤ l.length ∧ Below (w.heap.size + 1) (w.alloc (.cells #[.int .i64 8, .bool b, .int .i64 i, .float .f64 f, .string t, .slice Ab bs.length cb, .int .u64 r, .slice Al l.length cl, .slice Ad d.length cd, .string c, .int .i64 v] 29)) wr ∧ OwnV (fun b => w.heap.size + 1 ≤ b) wr (w.heap.size + 1) y (builtL (l.take k))) (fun _ j _ => l.length - (intOf j).toNat)
  case atStart => exact ⟨0, rfl, by omega, hb0, by simpa [builtL] using hO0⟩
  case round =>
    clear hO0 hown0 hg0 c70 hb0
    obtain ⟨k, rfl, hk, hb, hO⟩ := hrel
    obtain ⟨A1, c1, rfl⟩ := hO.form
    have hz : w.heap.size + 1 ≤ wr.heap.size := by have := hb.size; simp at this; omega
    have hb0 : Below w.heap.size w wr := HA.out.trans (hb.mono (by omega))
    by_cases hlt : k < l.length
    · obtain ⟨bl, off, rfl, hbB, hr⟩ := TermsAt.at_ hl hlt
      obtain ⟨p, hp⟩ : ∃ p, l[k]? = some p := ⟨_, List.getElem?_eq_getElem hlt⟩
      obtain ⟨vs, e1, hvs⟩ := RdTL.iff.1 hr k p hp
      have HC := Lib.hid (fun (W : World) (hW : Below wr.heap.size wr W) => ih p (List.mem_of_getElem? hp) vs W (RdT.more (Nat.le_trans (by omega) hW.size) _ _ (RdT.below hvs (hb0.trans (hW.mono (by omega))))))
      obtain ⟨n0, n1, n2, n3, n4, n5, n6, n7, n8, n9, n10, rfl, h1c⟩ := hvs.eleven
      have e1' := e1.keep (fun p hp => hb0.cell (by rw [hp]; exact hbB))
      have q0 := e1' 0 _ rfl
      have q1 := e1' 1 _ rfl
      have q2 := e1' 2 _ rfl
      have q3 := e1' 3 _ rfl
      have q4 := e1' 4 _ rfl
      have q5 := e1' 5 _ rfl
      have q6 := e1' 6 _ rfl
      have q7 := e1' 7 _ rfl
      have q8 := e1' 8 _ rfl
      have q9 := e1' 9 _ rfl
      have q10 := e1' 10 _ rfl
      simp only [Nat.add_zero] at q0
      have hxl : (builtL (l.take k)).length = k := by rw [builtL_eq]; simp; omega
      have HT : Hid (builtL (l.take (k + 1)) = builtL (l.take k) ++ [builtV p]) := Lib.hid (by rw [builtL_eq, builtL_eq, List.take_add_one, hp]; simp)
      have o0 := fun (W : World) (a : Addr) (m : Mode) => run_store Tryz.prog W a n0 m (h1c n0 (by simp))
      have o1 := fun (W : World) (a : Addr) (m : Mode) => run_store Tryz.prog W a n1 m (h1c n1 (by simp))
      have o2 := fun (W : World) (a : Addr) (m : Mode) => run_store Tryz.prog W a n2 m (h1c n2 (by simp))
      have o3 := fun (W : World) (a : Addr) (m : Mode) => run_store Tryz.prog W a n3 m (h1c n3 (by simp))
      have o4 := fun (W : World) (a : Addr) (m : Mode) => run_store Tryz.prog W a n4 m (h1c n4 (by simp))
      have o5 := fun (W : World) (a : Addr) (m : Mode) => run_store Tryz.prog W a n5 m (h1c n5 (by simp))
      have o6 := fun (W : World) (a : Addr) (m : Mode) => run_store Tryz.prog W a n6 m (h1c n6 (by simp))
      have o7 := fun (W : World) (a : Addr) (m : Mode) => run_store Tryz.prog W a n7 m (h1c n7 (by simp))
      have o8 := fun (W : World) (a : Addr) (m : Mode) => run_store Tryz.prog W a n8 m (h1c n8 (by simp))
      have o9 := fun (W : World) (a : Addr) (m : Mode) => run_store Tryz.prog W a n9 m (h1c n9 (by simp))
      have o10 := fun (W : World) (a : Addr) (m : Mode) => run_store Tryz.prog W a n10 m (h1c n10 (by simp))
      have hbv : Below wr.heap.size wr (wr.alloc (.cells #[n0, n1, n2, n3, n4, n5, n6, n7, n8, n9, n10] 29)) := (Below.refl _ _).alloc (Nat.le_refl _) _
      clear hp e1 e1' hvs hr hl ih h1c
      go_wp2_with fail
      refine (HC.out _ hbv).mono ?_
      rintro e w1 ⟨u, rfl, hu, hb1⟩
      have hbw : Below wr.heap.size wr w1 := hbv.trans (hb1.mono (by simp))
      have hz1' : wr.heap.size ≤ w1.heap.size := hbw.size
      have hba : Below w1.heap.size w1 (w1.alloc (.cells #[u] 20)) := (Below.refl _ _).alloc (Nat.le_refl _) _
      have hbx : Below wr.heap.size wr (w1.alloc (.cells #[u] 20)) := hbw.trans (hba.mono hz1')
      have hS2 := hb.trans (hbx.mono hz)
      have hO2 := hO.below hbx
      obtain ⟨xs0, hown0, _⟩ := hO
      rw [hxl] at hown0
      have hu1 : RdS w1 (New wr w1) (builtV p) u := RdS.more (fun b hb => ⟨by have := hb.1; simp at this; omega, hb.2⟩) _ _ hu
      have hu2 := fresh_of_new (F := fun b => w.heap.size + 1 ≤ b) hu1 hba (fun b h => Nat.le_trans hz h) hown0
      obtain ⟨xs, hown, hx⟩ := hO2
      rw [hxl] at hown
      rw [hxl] at hx
      have hou := hu.one
      have hz3 : w.heap.size + 1 ≤ (w1.alloc (.cells #[u] 20)).heap.size := by simp; omega
      rcases hu.face with rfl | ⟨ty, y, rfl⟩
      all_goals
        clear hu hu1
        go_wp2_with (at_builtin; go_must (refine wpList_append_lies _ rfl (.tmp 55) (.tmp 58) 43 rfl (w.heap.size + 1) 20 i0 _ 1 16 Tryz.underlying43 hi0 hz0 hz1 hz2 rfl (by omega) (.slice A1 k c1) k xs rfl hown ⟨w1.heap.size, 0, none⟩ 1 1 [_] rfl rfl (news_at rfl) (one_of1 hou) (by omega) (by simp only [maxLen]; omega) (by omega) hz3 _ rfl ?_); intro g cap w2 hown2 hg2 hat hlt2)
        refine ⟨⟨k + 1, rfl, hlt, hS2.grown hg2 hz3 (fun j hj => (hown.lt j hj).1), ?_⟩, ?_⟩
        · rw [HT.out]; exact OwnV.snoc hxl hown hx hu2 hown2 hg2 hat
        · simp [intOf]; omega
    · obtain rfl : k = l.length := by omega
      rw [List.take_length] at hO ⊢
      have hbl : (builtL l).length = l.length := by rw [builtL_eq]; simp
      have hR := hO.read (by omega)
      rw [hbl] at hR
      clear hO
      go_wp2
      go_ret
      exact ⟨_, rfl, RdS.more (fun b hb => ⟨hb.1.elim (fun h => by omega) (fun h => by omega), hb.2⟩) _ _ hR, hb0⟩
set_option maxRecDepth 100000 in
set_option maxHeartbeats 1000000 in
theorem loose_other (k : Int) (b : Bool) (i : Int) (f : Nat) (t : ByteArray) (bs : List UInt8) (r : Int) (l : List Tm) (d : List (ByteArray × Tm)) (c : ByteArray) (v : Int) (hk : k ≠ 1 ∧ k ≠ 2 ∧ k ≠ 3 ∧ k ≠ 4 ∧ k ≠ 5 ∧ k ≠ 6 ∧ k ≠ 7 ∧ k ≠ 8 ∧ k ≠ 9 ∧ k ≠ 10 ∧ k ≠ 11) : LooseC (.mk k b i f t bs r l d c v) := by
  rintro x w ⟨Ab, cb, Al, cl, Ad, cd, rfl, -, hi, ht, hbl, ⟨hbn, hbs⟩, hr0, hr1, hc, hv, ⟨hll, hl⟩, ⟨hdl, hd⟩⟩
  have HF : Hid (builtV (.mk k b i f t bs r l d c v) = .alien) := Lib.hid (by obtain ⟨h1, h2, h3, h4, h5, h6, h7, h8, h9, h10, h11⟩ := hk; simp [builtV, *])
  have kq := fun j (h : k ≠ j) => (beq_eq_false_iff_ne (a := k) (b := j)).2 h
  obtain ⟨h1, h2, h3, h4, h5, h6, h7, h8, h9, h10, h11⟩ := hk
  have g1 := kq _ h1
  have g2 := kq _ h2
  have g3 := kq _ h3
  have g4 := kq _ h4
  have g5 := kq _ h5
  have g6 := kq _ h6
  have g7 := kq _ h7
  have g8 := kq _ h8
  have g9 := kq _ h9
  have g10 := kq _ h10
  have g11 := kq _ h11
  clear h1 h2 h3 h4 h5 h6 h7 h8 h9 h10 h11 kq hbs hl hd
  unfold termOf
  go_enter Tryz.func160, Tryz.ntmps160
  go_wp2
  go_ret
  rw [HF.out]
  exact alien_of rfl ((Below.refl _ _).alloc (Nat.le_refl _) _)
theorem loose_any (x : Tm) : LooseC x := by
  induction x using Tm.ind with
  | h k b i f t bs r l d c v ihl ihd =>
    by_cases h1 : k = 1
    · subst h1; exact loose_1 b i f t bs r l d c v
    by_cases h2 : k = 2
    · subst h2; exact loose_2 b i f t bs r l d c v
    by_cases h3 : k = 3
    · subst h3; exact loose_3 b i f t bs r l d c v
    by_cases h4 : k = 4
    · subst h4; exact loose_4 b i f t bs r l d c v
    by_cases h5 : k = 5
    · subst h5; exact loose_5 b i f t bs r l d c v
    by_cases h6 : k = 6
    · subst h6; exact loose_6 b i f t bs r l d c v
    by_cases h7 : k = 7
    · subst h7; exact loose_7 b i f t bs r l d c v
    by_cases h8 : k = 8
    · subst h8; exact loose_8 b i f t bs r l d c v ihl
    by_cases h9 : k = 9
    · subst h9; exact loose_9 b i f t bs r l d c v ihd
    by_cases h10 : k = 10
    · subst h10; exact loose_10 b i f t bs r l d c v ihd
    by_cases h11 : k = 11
    · subst h11; exact loose_11 b i f t bs r l d c v
    exact loose_other k b i f t bs r l d c v ⟨h1, h2, h3, h4, h5, h6, h7, h8, h9, h10, h11⟩
end Go.Proofs.YtobpkelblpdajaaGreatDoor
