/- Walks: the document's Clean, of any term; what it keeps. -/
import Derived.Test.YtobpkelblpdajaaGreatDoorPR46
import Derived.Test.YtobpkelblpdajaaGreatDoorPR40
import Derived.Test.YtobpkelblpdajaaGreatDoorPR44
import Derived.Test.YtobpkelblpdajaaGreatDoorPR26
import Derived.Test.YtobpkelblpdajaaGreatDoorPR25
set_option linter.unusedVariables false
set_option linter.unusedSimpArgs false
set_option linter.unusedSectionVars false
namespace Go.Proofs.YtobpkelblpdajaaGreatDoor
open Go Go.RowKit
theorem rclean_any (T : Tm) : RCleanC T := by
  induction T using Tm.ind with
  | h k b i f t bs r l d c v ihl ihd =>
    by_cases h2 : k = 2; · subst h2; exact rclean_2 b i f t bs r l d c v
    by_cases h3 : k = 3; · subst h3; exact rclean_3 b i f t bs r l d c v
    by_cases h4 : k = 4; · subst h4; exact rclean_4 b i f t bs r l d c v
    by_cases h5 : k = 5; · subst h5; exact rclean_5 b i f t bs r l d c v
    by_cases h6 : k = 6; · subst h6; exact rclean_6 b i f t bs r l d c v
    by_cases h7 : k = 7; · subst h7; exact rclean_7 b i f t bs r l d c v
    by_cases h8 : k = 8; · subst h8; exact rclean_8 b i f t bs r l d c v ihl
    by_cases h9 : k = 9; · subst h9; exact rclean_9 b i f t bs r l d c v ihd
    by_cases h10 : k = 10; · subst h10; exact rclean_10 b i f t bs r l d c v ihd
    exact rclean_other k h2 h3 h4 h5 h6 h7 h8 h9 h10 b i f t bs r l d c v
end Go.Proofs.YtobpkelblpdajaaGreatDoor
/- Walk: mk.Is; what is built of a term that fits is the term, cleaned. -/
namespace Go.Proofs.YtobpkelblpdajaaGreatDoor
open Go Go.RowKit
theorem sameTL_of (f g : Tm → Tm) (l : List Tm) (h : ∀ x ∈ l, sameT (f x) (g x) = true) : sameTL (l.map f) (l.map g) = true := by
  induction l with
  | nil => rfl
  | cons x r ih => simp only [List.map_cons, sameTL, h x (by simp), Bool.true_and]; exact ih (fun y hy => h y (by simp [hy]))
theorem sameTD_of (f g : Tm → Tm) (l : List (ByteArray × Tm)) (h : ∀ p ∈ l, sameT (f p.2) (g p.2) = true) : sameTD (l.map fun p => (p.1, f p.2)) (l.map fun p => (p.1, g p.2)) = true := by
  induction l with
  | nil => rfl
  | cons x r ih => simp only [List.map_cons, sameTD, h x (by simp), beq_self_eq_true, Bool.and_true, Bool.true_and]; exact ih (fun y hy => h y (by simp [hy]))
theorem same_clean (T : Tm) : ∀ k d, tinyV (builtV T) k → d ≤ 300 + k → sameT (plainT (builtV T) d) (cleanT T) = true := by
  induction T using Tm.ind with
  | h k b i f t bs r l dd c v hl hd =>
    intro q d ht hq
    by_cases k1 : k = 1
    · subst k1; rw [show builtV (.mk 1 b i f t bs r l dd c v) = .nil by simp [builtV]] at ht ⊢; have h' : q ≤ 64 := ht; rw [plainT, if_neg (by omega), cleanT]; simp [sameT]
    by_cases k2 : k = 2
    · subst k2; rw [show builtV (.mk 2 b i f t bs r l dd c v) = .bool b by simp [builtV]] at ht ⊢; have h' : q ≤ 64 := ht; rw [plainT, if_neg (by omega), cleanT]; simp [sameT]
    by_cases k3 : k = 3
    · subst k3; rw [show builtV (.mk 3 b i f t bs r l dd c v) = .int i by simp [builtV]] at ht ⊢; have h' : q ≤ 64 := ht; rw [plainT, if_neg (by omega), cleanT]; simp [sameT]
    by_cases k4 : k = 4
    · subst k4; rw [show builtV (.mk 4 b i f t bs r l dd c v) = .flt f by simp [builtV]] at ht ⊢; have h' : q ≤ 64 := ht; rw [plainT, if_neg (by omega), cleanT]; simp [sameT]
    by_cases k5 : k = 5
    · subst k5; rw [show builtV (.mk 5 b i f t bs r l dd c v) = .text t by simp [builtV]] at ht ⊢; have h' : q ≤ 64 := ht; rw [plainT, if_neg (by omega), cleanT]; simp [sameT]
    by_cases k6 : k = 6
    · subst k6; rw [show builtV (.mk 6 b i f t bs r l dd c v) = .bytes bs by simp [builtV]] at ht ⊢; have h' : q ≤ 64 := ht; rw [plainT, if_neg (by omega), cleanT]; simp [sameT]
    by_cases k7 : k = 7
    · subst k7; rw [show builtV (.mk 7 b i f t bs r l dd c v) = .ref r by simp [builtV]] at ht ⊢; have h' : q ≤ 64 := ht; rw [plainT, if_neg (by omega), cleanT]; simp [sameT]
    by_cases k8 : k = 8
    · subst k8
      rw [show builtV (.mk 8 b i f t bs r l dd c v) = .list (builtL l) by simp [builtV]] at ht ⊢
      obtain ⟨h1, h2, h3⟩ := ht
      rw [plainT, if_neg (by omega), cleanT, plainL_eq, builtL_eq, List.map_map, cleanTL_eq]
      simp [sameT]
      exact sameTL_of _ _ _ (fun x hx => hl x hx (q + 1) (d + 1) (tinyL_iff.1 h3 _ (by rw [builtL_eq]; exact List.mem_map_of_mem hx)) (by omega))
    by_cases k9 : k = 9
    · subst k9
      rw [show builtV (.mk 9 b i f t bs r l dd c v) = .dict (builtD dd) by simp [builtV]] at ht ⊢
      obtain ⟨h1, h2, h3⟩ := ht
      rw [plainT, if_neg (by omega), cleanT, plainD_eq, builtD_eq, List.map_map, cleanTD_eq]
      simp [sameT]
      exact sameTD_of (fun x => plainT (builtV x) (d + 1)) cleanT _ (fun x hx => hd x hx (q + 1) (d + 1) (tinyD_iff.1 h3 (x.1, builtV x.2) (by rw [builtD_eq]; exact List.mem_map_of_mem (f := fun p : ByteArray × Tm => (p.1, builtV p.2)) hx)) (by omega))
    by_cases k10 : k = 10
    · subst k10
      rw [show builtV (.mk 10 b i f t bs r l dd c v) = .record c v (builtD dd) by simp [builtV]] at ht ⊢
      obtain ⟨h1, h2, h3⟩ := ht
      rw [plainT, if_neg (by omega), cleanT, plainD_eq, builtD_eq, List.map_map, cleanTD_eq]
      simp [sameT]
      exact sameTD_of (fun x => plainT (builtV x) (d + 1)) cleanT _ (fun x hx => hd x hx (q + 1) (d + 1) (tinyD_iff.1 h3 (x.1, builtV x.2) (by rw [builtD_eq]; exact List.mem_map_of_mem (f := fun p : ByteArray × Tm => (p.1, builtV p.2)) hx)) (by omega))
    exfalso
    by_cases k11 : k = 11
    · subst k11; simp [builtV, tinyV] at ht
    · simp [builtV, tinyV, k1, k2, k3, k4, k5, k6, k7, k8, k9, k10, k11] at ht
set_option maxRecDepth 100000 in
set_option maxHeartbeats 2000000 in
theorem is_any (x : V) (T : Tm) (v : Value) (y : List Value) (w : World) (hv : Rd w w.heap.size x v) (ht : tinyV x 1) (hy : RdT w w.heap.size T y) : Calls Tryz.prog 34 #[v, termOf y] w (BoolPost (sameT (plainT x 0) T) w) := by
  have HP := Lib.hid (fun (W : World) (h : Rd W W.heap.size x v) => Plain_ok x ht v W h)
  have HS := Lib.hid (fun (a b : List Value) (W : World) (h1 : RdT W W.heap.size (plainT x 0) a) (h2 : RdT W W.heap.size T b) => sameT_any (plainT x 0) T a b W h1 h2)
  have HV := Lib.hid hv
  have HY := Lib.hid hy
  obtain ⟨x0, x1, x2, x3, x4, x5, x6, x7, x8, x9, x10, rfl, h1c⟩ := hy.eleven
  have ho := hv.one
  clear hv ht hy h1c
  unfold termOf
  go_enter Tryz.func34, Tryz.ntmps34
  go_wp2_with fail
  have hbx : Below w.heap.size w (w.alloc (.cells #[x0, x1, x2, x3, x4, x5, x6, x7, x8, x9, x10] 29)) := (Below.refl _ _).alloc (Nat.le_refl _) _
  have HBX := Lib.hid hbx
  have HA : Hid ((w.alloc (.cells #[x0, x1, x2, x3, x4, x5, x6, x7, x8, x9, x10] 29)).heap.size = w.heap.size + 1) := Lib.hid (by simp)
  clear hbx
  refine wp_region_heldI (fun W => Below (w.heap.size + 1) (w.alloc (.cells #[x0, x1, x2, x3, x4, x5, x6, x7, x8, x9, x10] 29)) W) [0, 2] [1, 3, 4] (by kernel_rfl) (by kernel_rfl) (fun _ _ _ _ _ h => h) ?_ ?_
  · ((exact (Below.refl _ _).drew))
  simp only [pickI, List.getElem?_cons_succ, List.getElem?_cons_zero]
  repeat (refine HdS.step (fun K hK => ?_); go_simp; first | (refine hK _ ?_; clear hK K) | (apply Exists.intro; refine ⟨fun W hW => ?_, hK _ ?_⟩; (first | (intros; rfl) | ((obtain ⟨hc, hf⟩ := bcellB hW; go_simp; rfl))); clear hK K))
  refine HdS.nil ?_
  have hsz : w.heap.size + 1 ≤ (w.alloc (.cells #[x0, x1, x2, x3, x4, x5, x6, x7, x8, x9, x10] 29)).heap.size := by simp
  have hbd : Below w.heap.size w (w.alloc (.cells #[x0, x1, x2, x3, x4, x5, x6, x7, x8, x9, x10] 29)).drew := HBX.out.drew
  refine SeqS.step (fun K hK => ?_)
  go_simp
  go_at_call 71
  refine (HP.out _ (Rd.more hbd.size _ _ (Rd.below HV.out hbd))).mono ?_
  rintro e w1 ⟨u, rfl, hu, hbw⟩
  have hS1 : Below (w.heap.size + 1) (w.alloc (.cells #[x0, x1, x2, x3, x4, x5, x6, x7, x8, x9, x10] 29)) w1 := (Below.refl _ _).drew.trans (hbw.mono hsz)
  have hB1 : Below w.heap.size w w1 := hbd.trans (hbw.mono hbd.size)
  have HU := Lib.hid (hu.more (fun b h => h.2))
  obtain ⟨u0, u1, u2, u3, u4, u5, u6, u7, u8, u9, u10, rfl, h1c⟩ := hu.eleven
  refine hK _ _ hS1 ?_
  clear hK K hu h1c hbw
  unfold termOf
  refine SeqS.step (fun K hK => ?_)
  go_simp
  go_at_call 70
  refine (HS.out _ _ w1 HU.out (RdT.more hB1.size _ _ (RdT.below HY.out hB1))).mono ?_
  rintro e w2 ⟨rfl, hb2⟩
  have hS2 := hS1.trans (hb2.mono (Nat.le_trans hsz hS1.size))
  have HB2 := Lib.hid (hB1.trans (hb2.mono hB1.size))
  refine hK _ _ hS2 ?_
  clear hK K hb2
  refine SeqS.step (fun K hK => ?_)
  go_simp
  refine hK _ _ hS2 ?_
  clear hK K
  refine SeqS.nil ?_
  clear hS1 hS2 hB1
  go_wp2_with fail
  go_ret
  exact ⟨rfl, HB2.out⟩
end Go.Proofs.YtobpkelblpdajaaGreatDoor
/- Walk: the law of printing. -/
namespace Go.Proofs.YtobpkelblpdajaaGreatDoor
open Go Go.RowKit
theorem alien_bad {b : Bool} {i : Int} {f : Nat} {t : ByteArray} {bs : List UInt8} {r : Int} {l : List Tm} {d : List (ByteArray × Tm)} {c : ByteArray} {v : Int} {k : Int} (h : (checkV (builtV (.mk k b i f t bs r l d c v))).2 = 0) : k ≠ 0 := by
  rintro rfl
  rw [show builtV (.mk 0 b i f t bs r l d c v) = .alien by simp [builtV]] at h
  exact absurd h (by decide)
theorem one_of_head {k : Value} {l : List Value} (h : ∀ u ∈ k :: l, u.oneCell' = true) : ∀ u ∈ l, u.oneCell' = true := fun u hu => h u (by simp [hu])
theorem Env.more {w : World} {B B2 : Nat} (h : Env w B) (hB : B ≤ B2) : Env w B2 := ⟨h.esc, h.pow, h.deb, Nat.lt_of_lt_of_le h.b1 hB, Nat.lt_of_lt_of_le h.b2 hB, Nat.lt_of_lt_of_le h.b3 hB⟩
set_option maxRecDepth 100000 in
set_option maxHeartbeats 8000000 in
theorem prints_ok (k : Int) (b : Bool) (i : Int) (f0 : Nat) (t : ByteArray) (bs : List UInt8) (r : Int) (l : List Tm) (d : List (ByteArray × Tm)) (c : ByteArray) (v : Int) (s : ByteArray) (f : Nat) (xs : List Value) (w : World) (hx : RdT w w.heap.size (.mk k b i f0 t bs r l d c v) xs) (hf : FltT (.mk k b i f0 t bs r l d c v)) (he : Env w w.heap.size) (hs : s.size ≤ 34359738368) (hff : f < 18446744073709551616) (hg : (checkV (builtV (.mk k b i f0 t bs r l d c v))).2 = 0) : Calls Tryz.prog 5 #[termOf xs, .string s, .float .f64 f] w (BoolPost true w) := by
  obtain ⟨x1, x2, x3, x4, x5, x6, x7, x8, x9, x10, rfl, h1c⟩ : ∃ x1 x2 x3 x4 x5 x6 x7 x8 x9 x10, xs = [.int .i64 k, x1, x2, x3, x4, x5, x6, x7, x8, x9, x10] ∧ ∀ u ∈ [x1, x2, x3, x4, x5, x6, x7, x8, x9, x10], u.oneCell' = true := by
    obtain ⟨y0, y1, y2, y3, y4, y5, y6, y7, y8, y9, y10, rfl, h1⟩ := hx.eleven
    obtain ⟨_, _, _, _, _, _, h2, _⟩ := hx
    injection h2 with h2 _
    subst h2
    exact ⟨_, _, _, _, _, _, _, _, _, _, rfl, one_of_head h1⟩
  obtain ⟨T, hT⟩ : ∃ T, T = Tm.mk k b i f0 t bs r l d c v := ⟨_, rfl⟩
  rw [← hT] at hx hf hg
  have hk : k ≠ 0 := alien_bad (by rw [← hT]; exact hg)
  have hk2 : (k != 0) = true := by rw [bne_iff_ne]; exact hk
  clear hk
  clear hT
  have HF := Lib.hid (flt_built T hf)
  have HX := Lib.hid hx
  have HBt := Lib.hid (fun (W : World) (h : RdT W W.heap.size T [.int .i64 k, x1, x2, x3, x4, x5, x6, x7, x8, x9, x10]) => built_any T _ W h)
  have HPr := Lib.hid (fun (v : Value) (W : World) (h : Rd W W.heap.size (builtV T) v) (h2 : Env W W.heap.size) => Print_any (builtV T) v W h HF.out h2)
  have HLi := Lib.hid (fun (v : Value) (W : World) (h : Rd W W.heap.size (builtV T) v) (h2 : Env W W.heap.size) => Lines_any (builtV T) v W h HF.out h2)
  have HRf := Lib.hid (fun (W : World) (h : RdT W W.heap.size T [.int .i64 k, x1, x2, x3, x4, x5, x6, x7, x8, x9, x10]) (hF : FitP (builtV T)) => rPrint_any false T _ W h hF)
  have HRt := Lib.hid (fun (W : World) (h : RdT W W.heap.size T [.int .i64 k, x1, x2, x3, x4, x5, x6, x7, x8, x9, x10]) (hF : FitP (builtV T)) => rPrint_any true T _ W h hF)
  have HQ := Lib.hid (fun (W : World) (h : Esc W) => Quote_any s W h hs)
  have HRQ := Lib.hid (fun (W : World) => rquote_any s W hs)
  have HFl := Lib.hid (fun (W : World) (h : DeB W) => TFloat f W hff h)
  have HRF := Lib.hid (fun (W : World) => rfloat_any f W hff)
  have HOK : Hid (okV (builtV T)) := Lib.hid (by
    by_cases hq : (partV (builtV T) 1 ⟨0, 0, 0⟩).1 = true
    · exact hq
    · exfalso
      have hq2 : (partV (builtV T) 1 ⟨0, 0, 0⟩).1 = false := by cases hh : (partV (builtV T) 1 ⟨0, 0, 0⟩).1; rfl; exact absurd hh hq
      have hw := part_why (builtV T) 1 ⟨0, 0, 0⟩ hq2
      rw [checkV_no hq2] at hg
      exact hw hg)
  have HCl := Lib.hid (fun (W : World) (h : RdT W W.heap.size T [.int .i64 k, x1, x2, x3, x4, x5, x6, x7, x8, x9, x10]) => rclean_any T _ W h)
  have HIs := Lib.hid (fun (v : Value) (y : List Value) (W : World) (h : Rd W W.heap.size (builtV T) v) (h2 : RdT W W.heap.size (cleanT T) y) => (by have := is_any (builtV T) (cleanT T) v y W h (okV_tiny HOK.out) h2; rwa [same_clean T 1 0 (okV_tiny HOK.out) (by omega)] at this : Calls Tryz.prog 34 #[v, termOf y] W (BoolPost true W)))
  have HP1 : Hid ((printV false (builtV T)).2 = 0) := Lib.hid (by unfold printV; rw [if_pos hg])
  have HP2 : Hid ((printV true (builtV T)).2 = 0) := Lib.hid (by unfold printV; rw [if_pos hg])
  have hbx : Below w.heap.size w (w.alloc (.cells #[.int .i64 k, x1, x2, x3, x4, x5, x6, x7, x8, x9, x10] 29)) := (Below.refl _ _).alloc (Nat.le_refl _) _
  have HBX := Lib.hid hbx
  have HE := Lib.hid he
  have hZ : w.heap.size + 1 ≤ (w.alloc (.cells #[.int .i64 k, x1, x2, x3, x4, x5, x6, x7, x8, x9, x10] 29)).heap.size := by simp
  clear hx hf hg he hs hff hbx
  unfold termOf
  go_enter Tryz.func5, Tryz.ntmps5
  go_wp2_with fail
  refine (HBt.out _ (RdT.more (by simp) _ _ (RdT.below HX.out HBX.out))).mono ?_
  rintro e w0 ⟨vb, rfl, hvb, hb⟩
  have hS0 : Below (w.heap.size + 1) (w.alloc (.cells #[.int .i64 k, x1, x2, x3, x4, x5, x6, x7, x8, x9, x10] 29)) w0 := hb.mono (by simp)
  have hZ0 := Nat.le_trans hZ hS0.size
  have HFP := Lib.hid (fitP_of hvb HF.out)
  have HVB := Lib.hid (hvb.more (fun b h => h.2))
  have ho := hvb.one
  clear hb hvb
  go_wp2_with fail
  refine (HPr.out vb w0 HVB.out (Env.more (HE.out.below (HBX.out.trans (hS0.mono (by omega)))) (HBX.out.trans (hS0.mono (by omega))).size)).mono ?_
  rintro e w1 ⟨rfl, hb⟩
  have hS1 := hS0.trans (hb.mono hZ0)
  have hZ1 := Nat.le_trans hZ hS1.size
  have hV1 : Below w0.heap.size w0 w1 := hb
  clear hb
  have e1' : Lie w1 w.heap.size 0 [.int .i64 k, x1, x2, x3, x4, x5, x6, x7, x8, x9, x10] := fun j y hj => (hS1.cell (p := ⟨w.heap.size, 0 + j, none⟩) (show w.heap.size < _ by omega)).trans (by
    rw [Lib.cell_of_heap (heap_alloc_new w _)]; simpa using hj)
  have q0 := e1' 0 _ rfl
  have q1 := e1' 1 _ rfl
  have q2 := e1' 2 _ rfl
  have q3 := e1' 3 _ rfl
  have q4 := e1' 4 _ rfl
  have q5 := e1' 5 _ rfl
  have q6 := e1' 6 _ rfl
  have q7 := e1' 7 _ rfl
  have q8 := e1' 8 _ rfl
  have q9 := e1' 9 _ rfl
  have q10 := e1' 10 _ rfl
  simp only [Nat.add_zero] at q0
  clear e1'
  have HX1 := Lib.hid (RdT.more (HBX.out.trans (hS1.mono (by omega))).size _ _ (RdT.below HX.out (HBX.out.trans (hS1.mono (by omega)))))
  go_wp2_with fail
  refine (HRf.out w1 HX1.out HFP.out).mono ?_
  rintro e w2 ⟨rfl, hb⟩
  have hS2 := hS1.trans (hb.mono hZ1)
  have hZ2 := Nat.le_trans hZ hS2.size
  have hV2 : Below w0.heap.size w0 w2 := hV1.trans (hb.mono hV1.size)
  clear hb
  go_wp2_with fail
  refine (HLi.out vb w2 (Rd.more hV2.size _ _ (Rd.below HVB.out hV2)) (Env.more (HE.out.below (HBX.out.trans (hS2.mono (by omega)))) (HBX.out.trans (hS2.mono (by omega))).size)).mono ?_
  rintro e w3 ⟨rfl, hb⟩
  have hS3 := hS2.trans (hb.mono hZ2)
  have hZ3 := Nat.le_trans hZ hS3.size
  have hV3 : Below w0.heap.size w0 w3 := hV2.trans (hb.mono hV2.size)
  clear hb
  have e1' : Lie w3 w.heap.size 0 [.int .i64 k, x1, x2, x3, x4, x5, x6, x7, x8, x9, x10] := fun j y hj => (hS3.cell (p := ⟨w.heap.size, 0 + j, none⟩) (show w.heap.size < _ by omega)).trans (by
    rw [Lib.cell_of_heap (heap_alloc_new w _)]; simpa using hj)
  have q0 := e1' 0 _ rfl
  have q1 := e1' 1 _ rfl
  have q2 := e1' 2 _ rfl
  have q3 := e1' 3 _ rfl
  have q4 := e1' 4 _ rfl
  have q5 := e1' 5 _ rfl
  have q6 := e1' 6 _ rfl
  have q7 := e1' 7 _ rfl
  have q8 := e1' 8 _ rfl
  have q9 := e1' 9 _ rfl
  have q10 := e1' 10 _ rfl
  simp only [Nat.add_zero] at q0
  clear e1'
  have HX3 := Lib.hid (RdT.more (HBX.out.trans (hS3.mono (by omega))).size _ _ (RdT.below HX.out (HBX.out.trans (hS3.mono (by omega)))))
  go_wp2_with fail
  refine (HRt.out w3 HX3.out HFP.out).mono ?_
  rintro e w4 ⟨rfl, hb⟩
  have hS4 := hS3.trans (hb.mono hZ3)
  have hZ4 := Nat.le_trans hZ hS4.size
  have hV4 : Below w0.heap.size w0 w4 := hV3.trans (hb.mono hV3.size)
  clear hb
  have e1' : Lie w4 w.heap.size 0 [.int .i64 k, x1, x2, x3, x4, x5, x6, x7, x8, x9, x10] := fun j y hj => (hS4.cell (p := ⟨w.heap.size, 0 + j, none⟩) (show w.heap.size < _ by omega)).trans (by
    rw [Lib.cell_of_heap (heap_alloc_new w _)]; simpa using hj)
  have q0 := e1' 0 _ rfl
  have q1 := e1' 1 _ rfl
  have q2 := e1' 2 _ rfl
  have q3 := e1' 3 _ rfl
  have q4 := e1' 4 _ rfl
  have q5 := e1' 5 _ rfl
  have q6 := e1' 6 _ rfl
  have q7 := e1' 7 _ rfl
  have q8 := e1' 8 _ rfl
  have q9 := e1' 9 _ rfl
  have q10 := e1' 10 _ rfl
  simp only [Nat.add_zero] at q0
  clear e1'
  have HX4 := Lib.hid (RdT.more (HBX.out.trans (hS4.mono (by omega))).size _ _ (RdT.below HX.out (HBX.out.trans (hS4.mono (by omega)))))
  have hp1 := HP1.out
  have hp2 := HP2.out
  clear HP1 HP2 HBt HPr HLi HRf HRt
  generalize (printV false (builtV T)).1 = pa at *
  generalize (printV true (builtV T)).1 = pb at *
  generalize (printV false (builtV T)).2 = na at *
  generalize (printV true (builtV T)).2 = nb at *
  subst hp1 hp2
  go_wp2_with fail
  refine (HCl.out w4 HX4.out).mono ?_
  rintro e w5 ⟨uc, rfl, huc, hb⟩
  have HUC := Lib.hid (huc.more (fun b h => h.2))
  obtain ⟨u0, u1, u2, u3, u4, u5, u6, u7, u8, u9, u10, rfl, h1u⟩ := huc.eleven
  clear huc h1u
  unfold termOf
  have hS5 := hS4.trans (hb.mono hZ4)
  have hZ5 := Nat.le_trans hZ hS5.size
  have hV5 : Below w0.heap.size w0 w5 := hV4.trans (hb.mono hV4.size)
  clear hb
  go_wp2_with fail
  refine (HIs.out vb _ w5 (Rd.more hV5.size _ _ (Rd.below HVB.out hV5)) HUC.out).mono ?_
  rintro e w6 ⟨rfl, hb⟩
  have hS6 := hS5.trans (hb.mono hZ5)
  have hZ6 := Nat.le_trans hZ hS6.size
  have hV6 : Below w0.heap.size w0 w6 := hV5.trans (hb.mono hV5.size)
  clear hb
  go_wp2_with fail
  refine (HQ.out w6 (Env.more (HE.out.below (HBX.out.trans (hS6.mono (by omega)))) (HBX.out.trans (hS6.mono (by omega))).size).esc).mono ?_
  rintro e w7 ⟨rfl, hb⟩
  have hS7 := hS6.trans (hb.mono hZ6)
  have hZ7 := Nat.le_trans hZ hS7.size
  have hV7 : Below w0.heap.size w0 w7 := hV6.trans (hb.mono hV6.size)
  clear hb
  go_wp2_with fail
  refine (HRQ.out w7).mono ?_
  rintro e w8 ⟨rfl, hb⟩
  have hS8 := hS7.trans (hb.mono hZ7)
  have hZ8 := Nat.le_trans hZ hS8.size
  have hV8 : Below w0.heap.size w0 w8 := hV7.trans (hb.mono hV7.size)
  clear hb
  go_wp2_with fail
  refine (HFl.out w8 (Env.more (HE.out.below (HBX.out.trans (hS8.mono (by omega)))) (HBX.out.trans (hS8.mono (by omega))).size).deb).mono ?_
  rintro e w9 ⟨rfl, hb⟩
  have hS9 := hS8.trans (hb.mono hZ8)
  have hZ9 := Nat.le_trans hZ hS9.size
  have hV9 : Below w0.heap.size w0 w9 := hV8.trans (hb.mono hV8.size)
  clear hb
  go_wp2_with fail
  refine (HRF.out w9).mono ?_
  rintro e w10 ⟨rfl, hb⟩
  have hS10 := hS9.trans (hb.mono hZ9)
  have hZ10 := Nat.le_trans hZ hS10.size
  have hV10 : Below w0.heap.size w0 w10 := hV9.trans (hb.mono hV9.size)
  clear hb
  go_wp2_with fail
  go_ret
  exact ⟨rfl, (HBX.out.trans (hS10.mono (by omega)))⟩
set_option maxRecDepth 100000 in
set_option maxHeartbeats 8000000 in
theorem prints_no (k : Int) (b : Bool) (i : Int) (f0 : Nat) (t : ByteArray) (bs : List UInt8) (r : Int) (l : List Tm) (d : List (ByteArray × Tm)) (c : ByteArray) (v : Int) (s : ByteArray) (f : Nat) (xs : List Value) (w : World) (hx : RdT w w.heap.size (.mk k b i f0 t bs r l d c v) xs) (hf : FltT (.mk k b i f0 t bs r l d c v)) (he : Env w w.heap.size) (hs : s.size ≤ 34359738368) (hff : f < 18446744073709551616) (hg : (checkV (builtV (.mk k b i f0 t bs r l d c v))).2 ≠ 0) : Calls Tryz.prog 5 #[termOf xs, .string s, .float .f64 f] w (BoolPost true w) := by
  obtain ⟨x1, x2, x3, x4, x5, x6, x7, x8, x9, x10, rfl, h1c⟩ : ∃ x1 x2 x3 x4 x5 x6 x7 x8 x9 x10, xs = [.int .i64 k, x1, x2, x3, x4, x5, x6, x7, x8, x9, x10] ∧ ∀ u ∈ [x1, x2, x3, x4, x5, x6, x7, x8, x9, x10], u.oneCell' = true := by
    obtain ⟨y0, y1, y2, y3, y4, y5, y6, y7, y8, y9, y10, rfl, h1⟩ := hx.eleven
    obtain ⟨_, _, _, _, _, _, h2, _⟩ := hx
    injection h2 with h2 _
    subst h2
    exact ⟨_, _, _, _, _, _, _, _, _, _, rfl, one_of_head h1⟩
  obtain ⟨T, hT⟩ : ∃ T, T = Tm.mk k b i f0 t bs r l d c v := ⟨_, rfl⟩
  rw [← hT] at hx hf hg
  clear hT
  have HF := Lib.hid (flt_built T hf)
  have HX := Lib.hid hx
  have HBt := Lib.hid (fun (W : World) (h : RdT W W.heap.size T [.int .i64 k, x1, x2, x3, x4, x5, x6, x7, x8, x9, x10]) => built_any T _ W h)
  have HPr := Lib.hid (fun (v : Value) (W : World) (h : Rd W W.heap.size (builtV T) v) (h2 : Env W W.heap.size) => Print_any (builtV T) v W h HF.out h2)
  have HLi := Lib.hid (fun (v : Value) (W : World) (h : Rd W W.heap.size (builtV T) v) (h2 : Env W W.heap.size) => Lines_any (builtV T) v W h HF.out h2)
  have HRf := Lib.hid (fun (W : World) (h : RdT W W.heap.size T [.int .i64 k, x1, x2, x3, x4, x5, x6, x7, x8, x9, x10]) (hF : FitP (builtV T)) => rPrint_any false T _ W h hF)
  have HRt := Lib.hid (fun (W : World) (h : RdT W W.heap.size T [.int .i64 k, x1, x2, x3, x4, x5, x6, x7, x8, x9, x10]) (hF : FitP (builtV T)) => rPrint_any true T _ W h hF)
  have HQ := Lib.hid (fun (W : World) (h : Esc W) => Quote_any s W h hs)
  have HRQ := Lib.hid (fun (W : World) => rquote_any s W hs)
  have HFl := Lib.hid (fun (W : World) (h : DeB W) => TFloat f W hff h)
  have HRF := Lib.hid (fun (W : World) => rfloat_any f W hff)
  have HP1 : Hid ((printV false (builtV T)).2 ≠ 0) := Lib.hid (by unfold printV; rw [if_neg hg]; exact hg)
  have hbx : Below w.heap.size w (w.alloc (.cells #[.int .i64 k, x1, x2, x3, x4, x5, x6, x7, x8, x9, x10] 29)) := (Below.refl _ _).alloc (Nat.le_refl _) _
  have HBX := Lib.hid hbx
  have HE := Lib.hid he
  have hZ : w.heap.size + 1 ≤ (w.alloc (.cells #[.int .i64 k, x1, x2, x3, x4, x5, x6, x7, x8, x9, x10] 29)).heap.size := by simp
  clear hx hf hg he hs hff hbx
  unfold termOf
  go_enter Tryz.func5, Tryz.ntmps5
  go_wp2_with fail
  refine (HBt.out _ (RdT.more (by simp) _ _ (RdT.below HX.out HBX.out))).mono ?_
  rintro e w0 ⟨vb, rfl, hvb, hb⟩
  have hS0 : Below (w.heap.size + 1) (w.alloc (.cells #[.int .i64 k, x1, x2, x3, x4, x5, x6, x7, x8, x9, x10] 29)) w0 := hb.mono (by simp)
  have hZ0 := Nat.le_trans hZ hS0.size
  have HFP := Lib.hid (fitP_of hvb HF.out)
  have HVB := Lib.hid (hvb.more (fun b h => h.2))
  have ho := hvb.one
  clear hb hvb
  go_wp2_with fail
  refine (HPr.out vb w0 HVB.out (Env.more (HE.out.below (HBX.out.trans (hS0.mono (by omega)))) (HBX.out.trans (hS0.mono (by omega))).size)).mono ?_
  rintro e w1 ⟨rfl, hb⟩
  have hS1 := hS0.trans (hb.mono hZ0)
  have hZ1 := Nat.le_trans hZ hS1.size
  have hV1 : Below w0.heap.size w0 w1 := hb
  clear hb
  have e1' : Lie w1 w.heap.size 0 [.int .i64 k, x1, x2, x3, x4, x5, x6, x7, x8, x9, x10] := fun j y hj => (hS1.cell (p := ⟨w.heap.size, 0 + j, none⟩) (show w.heap.size < _ by omega)).trans (by
    rw [Lib.cell_of_heap (heap_alloc_new w _)]; simpa using hj)
  have q0 := e1' 0 _ rfl
  have q1 := e1' 1 _ rfl
  have q2 := e1' 2 _ rfl
  have q3 := e1' 3 _ rfl
  have q4 := e1' 4 _ rfl
  have q5 := e1' 5 _ rfl
  have q6 := e1' 6 _ rfl
  have q7 := e1' 7 _ rfl
  have q8 := e1' 8 _ rfl
  have q9 := e1' 9 _ rfl
  have q10 := e1' 10 _ rfl
  simp only [Nat.add_zero] at q0
  clear e1'
  have HX1 := Lib.hid (RdT.more (HBX.out.trans (hS1.mono (by omega))).size _ _ (RdT.below HX.out (HBX.out.trans (hS1.mono (by omega)))))
  go_wp2_with fail
  refine (HRf.out w1 HX1.out HFP.out).mono ?_
  rintro e w2 ⟨rfl, hb⟩
  have hS2 := hS1.trans (hb.mono hZ1)
  have hZ2 := Nat.le_trans hZ hS2.size
  have hV2 : Below w0.heap.size w0 w2 := hV1.trans (hb.mono hV1.size)
  clear hb
  go_wp2_with fail
  refine (HLi.out vb w2 (Rd.more hV2.size _ _ (Rd.below HVB.out hV2)) (Env.more (HE.out.below (HBX.out.trans (hS2.mono (by omega)))) (HBX.out.trans (hS2.mono (by omega))).size)).mono ?_
  rintro e w3 ⟨rfl, hb⟩
  have hS3 := hS2.trans (hb.mono hZ2)
  have hZ3 := Nat.le_trans hZ hS3.size
  have hV3 : Below w0.heap.size w0 w3 := hV2.trans (hb.mono hV2.size)
  clear hb
  have e1' : Lie w3 w.heap.size 0 [.int .i64 k, x1, x2, x3, x4, x5, x6, x7, x8, x9, x10] := fun j y hj => (hS3.cell (p := ⟨w.heap.size, 0 + j, none⟩) (show w.heap.size < _ by omega)).trans (by
    rw [Lib.cell_of_heap (heap_alloc_new w _)]; simpa using hj)
  have q0 := e1' 0 _ rfl
  have q1 := e1' 1 _ rfl
  have q2 := e1' 2 _ rfl
  have q3 := e1' 3 _ rfl
  have q4 := e1' 4 _ rfl
  have q5 := e1' 5 _ rfl
  have q6 := e1' 6 _ rfl
  have q7 := e1' 7 _ rfl
  have q8 := e1' 8 _ rfl
  have q9 := e1' 9 _ rfl
  have q10 := e1' 10 _ rfl
  simp only [Nat.add_zero] at q0
  clear e1'
  have HX3 := Lib.hid (RdT.more (HBX.out.trans (hS3.mono (by omega))).size _ _ (RdT.below HX.out (HBX.out.trans (hS3.mono (by omega)))))
  go_wp2_with fail
  refine (HRt.out w3 HX3.out HFP.out).mono ?_
  rintro e w4 ⟨rfl, hb⟩
  have hS4 := hS3.trans (hb.mono hZ3)
  have hZ4 := Nat.le_trans hZ hS4.size
  have hV4 : Below w0.heap.size w0 w4 := hV3.trans (hb.mono hV3.size)
  clear hb
  have e1' : Lie w4 w.heap.size 0 [.int .i64 k, x1, x2, x3, x4, x5, x6, x7, x8, x9, x10] := fun j y hj => (hS4.cell (p := ⟨w.heap.size, 0 + j, none⟩) (show w.heap.size < _ by omega)).trans (by
    rw [Lib.cell_of_heap (heap_alloc_new w _)]; simpa using hj)
  have q0 := e1' 0 _ rfl
  have q1 := e1' 1 _ rfl
  have q2 := e1' 2 _ rfl
  have q3 := e1' 3 _ rfl
  have q4 := e1' 4 _ rfl
  have q5 := e1' 5 _ rfl
  have q6 := e1' 6 _ rfl
  have q7 := e1' 7 _ rfl
  have q8 := e1' 8 _ rfl
  have q9 := e1' 9 _ rfl
  have q10 := e1' 10 _ rfl
  simp only [Nat.add_zero] at q0
  clear e1'
  have HX4 := Lib.hid (RdT.more (HBX.out.trans (hS4.mono (by omega))).size _ _ (RdT.below HX.out (HBX.out.trans (hS4.mono (by omega)))))
  have hp1 := HP1.out
  clear HP1 HBt HPr HLi HRf HRt
  generalize (printV false (builtV T)).1 = pa at *
  generalize (printV true (builtV T)).1 = pb at *
  generalize (printV false (builtV T)).2 = na at *
  generalize (printV true (builtV T)).2 = nb at *
  have hq : ((na : Int) == 0) = false := by rw [beq_eq_false_iff_ne]; omega
  by_cases hk : k = 0
  · subst hk
    go_wp2_with fail
    refine (HQ.out w4 (Env.more (HE.out.below (HBX.out.trans (hS4.mono (by omega)))) (HBX.out.trans (hS4.mono (by omega))).size).esc).mono ?_
    rintro e w5 ⟨rfl, hb⟩
    have hS5 := hS4.trans (hb.mono hZ4)
    have hZ5 := Nat.le_trans hZ hS5.size
    have hV5 : Below w0.heap.size w0 w5 := hV4.trans (hb.mono hV4.size)
    clear hb
    go_wp2_with fail
    refine (HRQ.out w5).mono ?_
    rintro e w6 ⟨rfl, hb⟩
    have hS6 := hS5.trans (hb.mono hZ5)
    have hZ6 := Nat.le_trans hZ hS6.size
    have hV6 : Below w0.heap.size w0 w6 := hV5.trans (hb.mono hV5.size)
    clear hb
    go_wp2_with fail
    refine (HFl.out w6 (Env.more (HE.out.below (HBX.out.trans (hS6.mono (by omega)))) (HBX.out.trans (hS6.mono (by omega))).size).deb).mono ?_
    rintro e w7 ⟨rfl, hb⟩
    have hS7 := hS6.trans (hb.mono hZ6)
    have hZ7 := Nat.le_trans hZ hS7.size
    have hV7 : Below w0.heap.size w0 w7 := hV6.trans (hb.mono hV6.size)
    clear hb
    go_wp2_with fail
    refine (HRF.out w7).mono ?_
    rintro e w8 ⟨rfl, hb⟩
    have hS8 := hS7.trans (hb.mono hZ7)
    have hZ8 := Nat.le_trans hZ hS8.size
    have hV8 : Below w0.heap.size w0 w8 := hV7.trans (hb.mono hV7.size)
    clear hb
    go_wp2_with fail
    go_ret
    exact ⟨rfl, (HBX.out.trans (hS8.mono (by omega)))⟩
  · have hk2 : (k != 0) = true := by rw [bne_iff_ne]; exact hk
    clear hk
    go_wp2_with fail
    refine (HQ.out w4 (Env.more (HE.out.below (HBX.out.trans (hS4.mono (by omega)))) (HBX.out.trans (hS4.mono (by omega))).size).esc).mono ?_
    rintro e w5 ⟨rfl, hb⟩
    have hS5 := hS4.trans (hb.mono hZ4)
    have hZ5 := Nat.le_trans hZ hS5.size
    have hV5 : Below w0.heap.size w0 w5 := hV4.trans (hb.mono hV4.size)
    clear hb
    go_wp2_with fail
    refine (HRQ.out w5).mono ?_
    rintro e w6 ⟨rfl, hb⟩
    have hS6 := hS5.trans (hb.mono hZ5)
    have hZ6 := Nat.le_trans hZ hS6.size
    have hV6 : Below w0.heap.size w0 w6 := hV5.trans (hb.mono hV5.size)
    clear hb
    go_wp2_with fail
    refine (HFl.out w6 (Env.more (HE.out.below (HBX.out.trans (hS6.mono (by omega)))) (HBX.out.trans (hS6.mono (by omega))).size).deb).mono ?_
    rintro e w7 ⟨rfl, hb⟩
    have hS7 := hS6.trans (hb.mono hZ6)
    have hZ7 := Nat.le_trans hZ hS7.size
    have hV7 : Below w0.heap.size w0 w7 := hV6.trans (hb.mono hV6.size)
    clear hb
    go_wp2_with fail
    refine (HRF.out w7).mono ?_
    rintro e w8 ⟨rfl, hb⟩
    have hS8 := hS7.trans (hb.mono hZ7)
    have hZ8 := Nat.le_trans hZ hS8.size
    have hV8 : Below w0.heap.size w0 w8 := hV7.trans (hb.mono hV7.size)
    clear hb
    go_wp2_with fail
    go_ret
    exact ⟨rfl, (HBX.out.trans (hS8.mono (by omega)))⟩
theorem prints_any (T : Tm) (s : ByteArray) (f : Nat) (xs : List Value) (w : World) (hx : RdT w w.heap.size T xs) (hf : FltT T) (he : Env w w.heap.size) (hs : s.size ≤ 34359738368) (hff : f < 18446744073709551616) : Calls Tryz.prog 5 #[termOf xs, .string s, .float .f64 f] w (BoolPost true w) := by
  obtain ⟨k, b, i, f0, t, bs, r, l, d, c, v⟩ := T
  by_cases hg : (checkV (builtV (.mk k b i f0 t bs r l d c v))).2 = 0
  · exact prints_ok k b i f0 t bs r l d c v s f xs w hx hf he hs hff hg
  · exact prints_no k b i f0 t bs r l d c v s f xs w hx hf he hs hff hg
end Go.Proofs.YtobpkelblpdajaaGreatDoor
