/- The law of logic: the walk. -/
import Derived.Test.YtbemeapjeipjlaaGreatDoorQL48
set_option linter.unusedVariables false
set_option linter.unusedSimpArgs false
namespace Go.Proofs.YtbemeapjeipjlaaGreatDoor
open Go Go.RowKit
set_option maxRecDepth 100000 in
set_option maxHeartbeats 4000000 in
theorem canV_self (k : Int) (h : 1 ≤ k) : canV (exOp oSelf []) k = (true, k - 1) := by
  rw [canV]; unfold canS
  have ht : takesV oSelf ⟨#[]⟩ = 0 := by unfold takesV; rw [if_neg (by decide), if_neg (by decide), if_pos (by simp)]
  have hp : partOK oSelf ⟨#[]⟩ zeroTm = true := by unfold partOK; rw [if_neg (by decide), if_neg (by decide), if_neg (by decide), if_neg (by decide)]
  rw [if_neg (by rw [ht]; simp [canVL]; omega), if_pos hp]; rfl
theorem validV_one : validV (exOp oNot [exOp oSelf []]) = true := by
  unfold validV
  rw [canV]; unfold canS
  have ht : takesV oNot ⟨#[]⟩ = 1 := by unfold takesV; rw [if_neg (by decide), if_neg (by decide), if_neg (by simp), if_pos (by simp)]
  have hp : partOK oNot ⟨#[]⟩ zeroTm = true := by unfold partOK; rw [if_neg (by decide), if_neg (by decide), if_neg (by decide), if_neg (by decide)]
  rw [if_neg (by rw [ht]; simp [canVL]), if_pos hp, canVL, canVL, canAll, canV_self _ (by omega)]; rfl
theorem evalR_one : evalR (exOp oNot [exOp oSelf []]) (.bool false) = (.bool true, 0, 0) := by
  have hc : (checkV (.bool false)).2 = 0 := by rfl
  have hc2 : (checkV (.bool true)).2 = 0 := by rfl
  have ha : askV (exOp oNot [exOp oSelf []]) (.bool false) 0 = (.val (.bool true), 2) := by
    have h1 : askV (exOp oSelf []) (.bool false) 1 = (.val (.bool false), 2) := by
      rw [askV]; unfold stepA; rw [if_neg (by decide), if_neg (by decide), if_pos rfl]
    rw [askV]; unfold stepA
    rw [if_neg (by decide), if_neg (by decide), if_neg (by decide), if_neg (by decide), if_neg (by decide), if_neg (by decide), if_neg (by decide), if_pos rfl]
    show bindA (askV (exOp oSelf []) (.bool false) 1) _ = _
    rw [h1]; rfl
  have he : evalV (exOp oNot [exOp oSelf []]) (.bool false) = (.bool true, 0, 0) := by
    unfold evalV
    rw [if_neg (by rw [hc]; simp), if_neg (by rw [validV_one]; simp), ha]
  unfold evalR
  rw [he]
  simp [hc2]
set_option maxRecDepth 100000 in
set_option maxHeartbeats 4000000 in
theorem logic_any (a b : Ex) (tv : Tm) (xa xb xt : List Value) (S : Nat → Prop) (w : World) (hS : ∀ b, S b → b < w.heap.size) (ha : RdES w S a xa) (hb : RdES w S b xb) (ht : RdTS w S tv xt) (hw : Words w S 1 kindWords) (hw2 : Words w S 2 wordList) :
    Calls Tryz.prog 4 #[termOf xa, termOf xb, termOf xt] w (BoolPost true w) := by
  obtain ⟨x0, x1, x2, x3, x4, x5, x6, x7, x8, x9, x10, x11, x12, x13, x14, rfl, -⟩ := Ex.fifteen ha
  obtain ⟨y0, y1, y2, y3, y4, y5, y6, y7, y8, y9, y10, y11, y12, y13, y14, rfl, -⟩ := Ex.fifteen hb
  obtain ⟨t0, t1, t2, t3, t4, t5, t6, t7, t8, t9, t10, rfl, -⟩ := ht.eleven
  have HB3 : Hid (Below w.heap.size w (((w.alloc (.cells #[x0, x1, x2, x3, x4, x5, x6, x7, x8, x9, x10, x11, x12, x13, x14] 32)).alloc (.cells #[y0, y1, y2, y3, y4, y5, y6, y7, y8, y9, y10, y11, y12, y13, y14] 32)).alloc (.cells #[t0, t1, t2, t3, t4, t5, t6, t7, t8, t9, t10] 30))) := Lib.hid ((((Below.refl _ _).alloc (Nat.le_refl _) _).alloc (by simp) _).alloc (by simp; omega) _)
  have hsz3 : (((w.alloc (.cells #[x0, x1, x2, x3, x4, x5, x6, x7, x8, x9, x10, x11, x12, x13, x14] 32)).alloc (.cells #[y0, y1, y2, y3, y4, y5, y6, y7, y8, y9, y10, y11, y12, y13, y14] 32)).alloc (.cells #[t0, t1, t2, t3, t4, t5, t6, t7, t8, t9, t10] 30)).heap.size = w.heap.size + 3 := by simp
  have HBu := Lib.hid (built_any tv [t0, t1, t2, t3, t4, t5, t6, t7, t8, t9, t10] (((w.alloc (.cells #[x0, x1, x2, x3, x4, x5, x6, x7, x8, x9, x10, x11, x12, x13, x14] 32)).alloc (.cells #[y0, y1, y2, y3, y4, y5, y6, y7, y8, y9, y10, y11, y12, y13, y14] 32)).alloc (.cells #[t0, t1, t2, t3, t4, t5, t6, t7, t8, t9, t10] 30)) (RdT.more HB3.out.size _ _ (RdTS.below (RdTS.more hS _ _ ht) HB3.out)))
  have lx : Lie (((w.alloc (.cells #[x0, x1, x2, x3, x4, x5, x6, x7, x8, x9, x10, x11, x12, x13, x14] 32)).alloc (.cells #[y0, y1, y2, y3, y4, y5, y6, y7, y8, y9, y10, y11, y12, y13, y14] 32)).alloc (.cells #[t0, t1, t2, t3, t4, t5, t6, t7, t8, t9, t10] 30)) w.heap.size 0 [x0, x1, x2, x3, x4, x5, x6, x7, x8, x9, x10, x11, x12, x13, x14] := by intro j u hj; rw [show (((w.alloc (.cells #[x0, x1, x2, x3, x4, x5, x6, x7, x8, x9, x10, x11, x12, x13, x14] 32)).alloc (.cells #[y0, y1, y2, y3, y4, y5, y6, y7, y8, y9, y10, y11, y12, y13, y14] 32)).alloc (.cells #[t0, t1, t2, t3, t4, t5, t6, t7, t8, t9, t10] 30)).cell? ⟨w.heap.size, 0 + j, none⟩ = ([x0, x1, x2, x3, x4, x5, x6, x7, x8, x9, x10, x11, x12, x13, x14] : List Value)[j]? by simp [go_sem]]; exact hj
  have ly : Lie (((w.alloc (.cells #[x0, x1, x2, x3, x4, x5, x6, x7, x8, x9, x10, x11, x12, x13, x14] 32)).alloc (.cells #[y0, y1, y2, y3, y4, y5, y6, y7, y8, y9, y10, y11, y12, y13, y14] 32)).alloc (.cells #[t0, t1, t2, t3, t4, t5, t6, t7, t8, t9, t10] 30)) (w.heap.size + 1) 0 [y0, y1, y2, y3, y4, y5, y6, y7, y8, y9, y10, y11, y12, y13, y14] := by intro j u hj; rw [show (((w.alloc (.cells #[x0, x1, x2, x3, x4, x5, x6, x7, x8, x9, x10, x11, x12, x13, x14] 32)).alloc (.cells #[y0, y1, y2, y3, y4, y5, y6, y7, y8, y9, y10, y11, y12, y13, y14] 32)).alloc (.cells #[t0, t1, t2, t3, t4, t5, t6, t7, t8, t9, t10] 30)).cell? ⟨w.heap.size + 1, 0 + j, none⟩ = ([y0, y1, y2, y3, y4, y5, y6, y7, y8, y9, y10, y11, y12, y13, y14] : List Value)[j]? by simp [go_sem]]; exact hj
  unfold termOf
  go_enter Tryz.func4, Tryz.ntmps4
  go_wp2_with fail
  refine HBu.out.mono ?_
  rintro e w1 ⟨vv, rfl, hvv, hb1⟩
  have hz1 : w.heap.size + 3 ≤ w1.heap.size := by have := hb1.size; rw [hsz3] at this; exact this
  have hb01 : Below w.heap.size w w1 := HB3.out.trans (hb1.mono (by rw [hsz3]; omega))
  have lx1 := lx.keep (fun p hp => hb1.cell (show p.block < _ by rw [hp, hsz3]; omega))
  have ly1 := ly.keep (fun p hp => hb1.cell (show p.block < _ by rw [hp, hsz3]; omega))
  have ha1 := RdES.keep (fun p hp => hb01.cell (hS _ hp)) _ _ ha
  have hbb1 := RdES.keep (fun p hp => hb01.cell (hS _ hp)) _ _ hb
  have hwl : Hid (Words w1 S 1 kindWords) := Lib.hid (hw.below hS hb01)
  have hw2l : Hid (Words w1 S 2 wordList) := Lib.hid (hw2.below hS hb01)
  have hS1 : ∀ b, S b → b < w1.heap.size := fun b h => Nat.lt_of_lt_of_le (hS b h) hb01.size
  have HVV := Lib.hid hvv
  have HB01 := Lib.hid hb01
  have HLa : Hid (∀ W, Below w1.heap.size w1 W → ∃ y, Lie W w.heap.size 0 y ∧ RdE W W.heap.size a y) := Lib.hid fun W hW => ⟨_, lx1.keep (fun p hp => hW.cell (show p.block < _ by rw [hp]; omega)), RdES.more (fun b h => Nat.lt_of_lt_of_le (hS1 b h) hW.size) _ _ (RdES.keep (fun p hp => hW.cell (hS1 _ hp)) _ _ ha1)⟩
  have HLb : Hid (∀ W, Below w1.heap.size w1 W → ∃ y, Lie W (w.heap.size + 1) 0 y ∧ RdE W W.heap.size b y) := Lib.hid fun W hW => ⟨_, ly1.keep (fun p hp => hW.cell (show p.block < _ by rw [hp]; omega)), RdES.more (fun b h => Nat.lt_of_lt_of_le (hS1 b h) hW.size) _ _ (RdES.keep (fun p hp => hW.cell (hS1 _ hp)) _ _ hbb1)⟩
  clear ha hb ht hw hw2 lx ly lx1 ly1 ha1 hbb1 hvv hb01 hb1
  go_wp2_with fail
  simp only [List.append_eq, List.cons_append, List.nil_append]
  refine wp_region_to 182 logicDs logicNd (fun d => Sat (logicK a b d)) (fun W => Below w1.heap.size w1 W) (by kernel_rfl) (by kernel_rfl) (by kernel_rfl) (by kernel_rfl) rfl (below_drewN (Below.refl _ _) 1) ?_ ?_
  · intro Q b0 hb0
    have h3 : b0.tmps.getD 3 undef = .pointer (some ⟨w.heap.size, 0, none⟩) := by rw [hb0]; rfl
    have h4 : b0.tmps.getD 4 undef = .pointer (some ⟨w.heap.size + 1, 0, none⟩) := by rw [hb0]; rfl
    clear hb0
    have hCm : ∀ W W', Below w1.heap.size w1 W → Below W.heap.size W W' → Below w1.heap.size w1 W' := fun W W' h h' => h.trans (h'.mono h.size)
    have hla := HLa.out
    have hlb := HLb.out
    clear HLa HLb HB3 hsz3 HBu hz1 hwl hw2l hS1 HVV HB01
    refine ⟨to_load hCm (x := a) rfl (by decide) h3 hla, ?_⟩
    refine ⟨to_load hCm (x := b) rfl (by decide) h4 hlb, ?_⟩
    refine ⟨to_two hCm rfl rfl rfl (by simp) (by simp), ?_⟩
    refine ⟨to_call hCm rfl rfl (by decide) (by simp) (by simp), ?_⟩
    refine ⟨to_one hCm rfl rfl (by simp), ?_⟩
    refine ⟨to_call hCm rfl rfl (by decide) (by simp) (by simp), ?_⟩
    refine ⟨to_load hCm (x := a) rfl (by decide) h3 hla, ?_⟩
    refine ⟨to_one hCm rfl rfl (by simp), ?_⟩
    refine ⟨to_call hCm rfl rfl (by decide) (by simp) (by simp), ?_⟩
    refine ⟨to_load hCm (x := b) rfl (by decide) h4 hlb, ?_⟩
    refine ⟨to_one hCm rfl rfl (by simp), ?_⟩
    refine ⟨to_call hCm rfl rfl (by decide) (by simp) (by simp), ?_⟩
    refine ⟨to_two hCm rfl rfl rfl (by simp) (by simp), ?_⟩
    refine ⟨to_call hCm rfl rfl (by decide) (by simp) (by simp), ?_⟩
    refine ⟨to_pair hCm rfl rfl rfl (by simp) (by simp), ?_⟩
    refine ⟨to_load hCm (x := a) rfl (by decide) h3 hla, ?_⟩
    refine ⟨to_load hCm (x := b) rfl (by decide) h4 hlb, ?_⟩
    refine ⟨to_two hCm rfl rfl rfl (by simp) (by simp), ?_⟩
    refine ⟨to_call2 hCm rfl rfl (by decide) (by simp) (by simp), ?_⟩
    refine ⟨to_one hCm rfl rfl (by simp), ?_⟩
    refine ⟨to_call hCm rfl rfl (by decide) (by simp) (by simp), ?_⟩
    refine ⟨to_load hCm (x := a) rfl (by decide) h3 hla, ?_⟩
    refine ⟨to_load hCm (x := b) rfl (by decide) h4 hlb, ?_⟩
    refine ⟨to_one hCm rfl rfl (by simp), ?_⟩
    refine ⟨to_call hCm rfl rfl (by decide) (by simp) (by simp), ?_⟩
    refine ⟨to_two hCm rfl rfl rfl (by simp) (by simp), ?_⟩
    refine ⟨to_call2 hCm rfl rfl (by decide) (by simp) (by simp), ?_⟩
    refine ⟨to_pair hCm rfl rfl rfl (by simp) (by simp), ?_⟩
    refine ⟨to_load hCm (x := a) rfl (by decide) h3 hla, ?_⟩
    refine ⟨to_load hCm (x := b) rfl (by decide) h4 hlb, ?_⟩
    refine ⟨to_two hCm rfl rfl rfl (by simp) (by simp), ?_⟩
    refine ⟨to_call hCm rfl rfl (by decide) (by simp) (by simp), ?_⟩
    refine ⟨to_load hCm (x := b) rfl (by decide) h4 hlb, ?_⟩
    refine ⟨to_load hCm (x := a) rfl (by decide) h3 hla, ?_⟩
    refine ⟨to_two hCm rfl rfl rfl (by simp) (by simp), ?_⟩
    refine ⟨to_call hCm rfl rfl (by decide) (by simp) (by simp), ?_⟩
    refine ⟨to_pair hCm rfl rfl rfl (by simp) (by simp), ?_⟩
    refine ⟨to_load hCm (x := a) rfl (by decide) h3 hla, ?_⟩
    refine ⟨to_load hCm (x := b) rfl (by decide) h4 hlb, ?_⟩
    refine ⟨to_two hCm rfl rfl rfl (by simp) (by simp), ?_⟩
    refine ⟨to_call hCm rfl rfl (by decide) (by simp) (by simp), ?_⟩
    refine ⟨to_load hCm (x := b) rfl (by decide) h4 hlb, ?_⟩
    refine ⟨to_load hCm (x := a) rfl (by decide) h3 hla, ?_⟩
    refine ⟨to_two hCm rfl rfl rfl (by simp) (by simp), ?_⟩
    refine ⟨to_call hCm rfl rfl (by decide) (by simp) (by simp), ?_⟩
    refine ⟨to_pair hCm rfl rfl rfl (by simp) (by simp), ?_⟩
    refine ⟨to_load hCm (x := a) rfl (by decide) h3 hla, ?_⟩
    refine ⟨to_load hCm (x := b) rfl (by decide) h4 hlb, ?_⟩
    refine ⟨to_two hCm rfl rfl rfl (by simp) (by simp), ?_⟩
    refine ⟨to_call hCm rfl rfl (by decide) (by simp) (by simp), ?_⟩
    refine ⟨to_load hCm (x := a) rfl (by decide) h3 hla, ?_⟩
    refine ⟨to_load hCm (x := b) rfl (by decide) h4 hlb, ?_⟩
    refine ⟨to_two hCm rfl rfl rfl (by simp) (by simp), ?_⟩
    refine ⟨to_call hCm rfl rfl (by decide) (by simp) (by simp), ?_⟩
    refine ⟨to_one hCm rfl rfl (by simp), ?_⟩
    refine ⟨to_call hCm rfl rfl (by decide) (by simp) (by simp), ?_⟩
    refine ⟨to_pair hCm rfl rfl rfl (by simp) (by simp), ?_⟩
    refine ⟨to_load hCm (x := a) rfl (by decide) h3 hla, ?_⟩
    refine ⟨to_load hCm (x := b) rfl (by decide) h4 hlb, ?_⟩
    refine ⟨to_two hCm rfl rfl rfl (by simp) (by simp), ?_⟩
    refine ⟨to_call2 hCm rfl rfl (by decide) (by simp) (by simp), ?_⟩
    refine ⟨to_one hCm rfl rfl (by simp), ?_⟩
    refine ⟨to_call2 hCm rfl rfl (by decide) (by simp) (by simp), ?_⟩
    refine ⟨to_load hCm (x := a) rfl (by decide) h3 hla, ?_⟩
    refine ⟨to_load hCm (x := b) rfl (by decide) h4 hlb, ?_⟩
    refine ⟨to_two hCm rfl rfl rfl (by simp) (by simp), ?_⟩
    refine ⟨to_call2 hCm rfl rfl (by decide) (by simp) (by simp), ?_⟩
    refine ⟨to_self hCm rfl (by decide), ?_⟩
    refine ⟨to_two hCm rfl rfl rfl (by simp) (by simp), ?_⟩
    refine ⟨to_call2 hCm rfl rfl (by decide) (by simp) (by simp), ?_⟩
    refine ⟨to_one hCm rfl rfl (by simp), ?_⟩
    refine ⟨to_call2 hCm rfl rfl (by decide) (by simp) (by simp), ?_⟩
    refine ⟨to_pair hCm rfl rfl rfl (by simp) (by simp), ?_⟩
    refine ⟨to_rows hCm rfl rfl rfl rfl rfl rfl rfl rfl, ?_⟩
    refine ⟨to_assign hCm (s := 94) (d := 8) rfl (List.mem_singleton.2 rfl), ?_⟩
    exact trivial
  · intro f W hC hT
    have h8 := hT 8 (by decide)
    clear hT
    simp only [putAll, Act.put]
    go_simp
    obtain ⟨bl, e8, hbl, hps⟩ : Sat (.rows (logicPairs a b)) (f 8) W := h8
    have hlen : (logicPairs a b).length = 6 := rfl
    rw [hlen] at e8
    have hlaw := logic_law a b (builtV tv)
    generalize logicPairs a b = ps at *
    rw [e8]
    have hz2 : w1.heap.size ≤ W.heap.size := hC.size
    have HVW : Hid (∀ W', Below W.heap.size W W' → Rd W' W'.heap.size (builtV tv) vv) := Lib.hid fun W' h' => by
      have h1 := hC.trans (h'.mono hz2)
      exact RdS.more (fun b hb => Nat.lt_of_lt_of_le hb.2 h1.size) _ _ (RdS.keep (fun p hp => h1.cell hp.2) _ _ HVV.out)
    have HW1 : Hid (∀ W', Below W.heap.size W W' → Words W' (fun b => b < W'.heap.size) 1 kindWords) := Lib.hid fun W' h' => by
      have h1 := hC.trans (h'.mono hz2)
      exact (hwl.out.below hS1 h1).more fun b hb => Nat.lt_of_lt_of_le (hS1 b hb) h1.size
    have HW2 : Hid (∀ W', Below W.heap.size W W' → Words W' (fun b => b < W'.heap.size) 2 wordList) := Lib.hid fun W' h' => by
      have h1 := hC.trans (h'.mono hz2)
      exact (hw2l.out.below hS1 h1).more fun b hb => Nat.lt_of_lt_of_le (hS1 b hb) h1.size
    have HBW : Hid (Below w.heap.size w W) := Lib.hid (HB01.out.trans (hC.mono (by omega)))
    have hwW : w.heap.size ≤ W.heap.size := HBW.out.size
    clear HLa HLb HB3 hsz3 HBu hz1 hwl hw2l hS1 HVV HB01 hC hz2 hS
    go_wp2_with fail
    go_loopw [9] (fun i wr => ∃ k : Nat, i = .int .i64 k ∧ k ≤ 6 ∧ Below W.heap.size W wr) (fun i _ => 6 - (intOf i).toNat)
    case atStart => exact ⟨0, rfl, by omega, Below.refl _ _⟩
    case round =>
      obtain ⟨k, rfl, hk, hbr⟩ := hrel
      have hzr : W.heap.size ≤ wr.heap.size := hbr.size
      by_cases hlt : k < 6
      · obtain ⟨p, hp⟩ : ∃ p, ps[k]? = some p := ⟨_, List.getElem?_eq_getElem (by omega)⟩
        have HL := Lib.hid (hlaw k p hp)
        obtain ⟨x, y, l1, l2, r1, r2⟩ := hps k p hp
        have l1' := l1.keep (fun p hp => hbr.cell (show p.block < _ by rw [hp]; exact hbl))
        have l2' := l2.keep (fun p hp => hbr.cell (show p.block < _ by rw [hp]; exact hbl))
        have HE1 := Lib.hid (tell_any p.1 x (builtV tv) vv (fun b => b < wr.heap.size) wr (fun b h => h) (RdES.more (fun b h => Nat.lt_of_lt_of_le h hzr) _ _ (RdE.below r1 hbr)) (HVW.out wr hbr) (HW1.out wr hbr) (HW2.out wr hbr))
        have HE2 := Lib.hid (fun (W' : World) (h' : Below wr.heap.size wr W') => tell_any p.2 y (builtV tv) vv (fun b => b < W'.heap.size) W' (fun b h => h) (RdES.more (fun b h => Nat.lt_of_lt_of_le (Nat.lt_of_lt_of_le h hzr) h'.size) _ _ (RdE.below r2 (hbr.trans (h'.mono hzr)))) (HVW.out W' (hbr.trans (h'.mono hzr))) (HW1.out W' (hbr.trans (h'.mono hzr))) (HW2.out W' (hbr.trans (h'.mono hzr))))
        obtain ⟨x0, x1, x2, x3, x4, x5, x6, x7, x8, x9, x10, x11, x12, x13, x14, rfl, -⟩ := Ex.fifteen r1
        obtain ⟨y0, y1, y2, y3, y4, y5, y6, y7, y8, y9, y10, y11, y12, y13, y14, rfl, -⟩ := Ex.fifteen r2
        have l2r := fun (W' : World) (h' : Below wr.heap.size wr W') => l2'.keep (fun p hp => h'.cell (show p.block < _ by rw [hp]; omega))
        have q0 := l1' 0 _ rfl
        have q1 := l1' 1 _ rfl
        have q2 := l1' 2 _ rfl
        have q3 := l1' 3 _ rfl
        have q4 := l1' 4 _ rfl
        have q5 := l1' 5 _ rfl
        have q6 := l1' 6 _ rfl
        have q7 := l1' 7 _ rfl
        have q8 := l1' 8 _ rfl
        have q9 := l1' 9 _ rfl
        have q10 := l1' 10 _ rfl
        have q11 := l1' 11 _ rfl
        have q12 := l1' 12 _ rfl
        have q13 := l1' 13 _ rfl
        have q14 := l1' 14 _ rfl
        simp only [Nat.add_zero] at q0
        clear l1 l2 l1' l2' r1 r2 hps hlaw HVW
        generalize evalR p.1 (builtV tv) = R1 at *
        generalize evalR p.2 (builtV tv) = R2 at *
        obtain ⟨v1, a1, c1⟩ := R1
        obtain ⟨v2, a2, c2⟩ := R2
        unfold termOf at HE1 HE2
        go_wp2_with fail
        refine HE1.out.mono ?_
        rintro e w2 ⟨u1, rfl, hb2, hu1⟩
        have l2s := l2r w2 hb2
        have q0 := l2s 0 _ rfl
        have q1 := l2s 1 _ rfl
        have q2 := l2s 2 _ rfl
        have q3 := l2s 3 _ rfl
        have q4 := l2s 4 _ rfl
        have q5 := l2s 5 _ rfl
        have q6 := l2s 6 _ rfl
        have q7 := l2s 7 _ rfl
        have q8 := l2s 8 _ rfl
        have q9 := l2s 9 _ rfl
        have q10 := l2s 10 _ rfl
        have q11 := l2s 11 _ rfl
        have q12 := l2s 12 _ rfl
        have q13 := l2s 13 _ rfl
        have q14 := l2s 14 _ rfl
        simp only [Nat.add_zero] at q0
        clear l2s l2r
        go_wp2_with fail
        refine (HE2.out w2 hb2).mono ?_
        rintro e w3 ⟨u2, rfl, hb3, hu2⟩
        have hb23 : Below wr.heap.size wr w3 := below_then hb2 (Nat.le_refl _) hb3
        have hbW3 : Below W.heap.size W w3 := hbr.trans (hb23.mono hzr)
        have hz3 : W.heap.size ≤ w3.heap.size := hbW3.size
        have hcl : ∀ wq, Below w3.heap.size w3 wq → Below W.heap.size W wq := fun wq h => hbW3.trans (h.mono hz3)
        simp only at HL hu1 hu2
        by_cases g1 : c1 = 0
        · by_cases g2 : c2 = 0
          · subst g1; subst g2
            obtain ⟨v, hv, e1, e2⟩ := HL.out.1 rfl rfl
            simp only at e1 e2
            subst e1; subst e2
            have huu : u1 = u2 := by
              rcases hv with rfl | ⟨b, rfl⟩ | ⟨n, rfl⟩
              · exact Eq.trans hu1 (Eq.symm hu2)
              · exact Eq.trans hu1 (Eq.symm hu2)
              · exact Eq.trans hu1.1 (Eq.symm hu2.1)
            subst huu
            obtain ⟨yv, HP, HS⟩ := PlainX_simple hv hu2
            have HP := Lib.hid HP
            have HS := Lib.hid HS
            clear HE1 HE2 hu1 hu2 HL hv
            go_wp2_with fail
            refine (HP.out _).mono ?_
            rintro e w4 ⟨rfl, hb4⟩
            go_wp2_with fail
            refine (HP.out _).mono ?_
            rintro e w5 ⟨rfl, hb5⟩
            go_wp2_with fail
            refine (HS.out _).mono ?_
            rintro e w6 ⟨rfl, hb6⟩
            have hb46 := below_then (below_then hb4 (Nat.le_refl _) hb5) (Nat.le_refl _) hb6
            have hfin := hcl _ hb46
            go_wp2
            refine ⟨⟨k + 1, rfl, hlt, hfin⟩, ?_⟩
            simp [intOf] <;> omega
          · have hqn : ((c2 : Int) == 0) = false := by rw [beq_eq_false_iff_ne]; omega
            have hA := HL.out.2
            subst g1
            clear HE1 HE2 hu1 hu2 HL
            by_cases k2 : k = 2
            · subst k2
              go_wp2
              refine ⟨⟨3, rfl, by omega, hbW3⟩, ?_⟩
              simp [intOf] <;> omega
            by_cases k3 : k = 3
            · subst k3
              go_wp2
              refine ⟨⟨4, rfl, by omega, hbW3⟩, ?_⟩
              simp [intOf] <;> omega
            have hk2 : ((k : Int) != 2) = true := by rw [bne_iff_ne]; omega
            have hk3 : ((k : Int) != 3) = true := by rw [bne_iff_ne]; omega
            have hB := hA ⟨k2, k3⟩
            by_cases n2 : c2 = 2
            · subst n2
              go_wp2
              refine ⟨⟨k + 1, rfl, hlt, hbW3⟩, ?_⟩
              simp [intOf] <;> omega
            have hn : c2 = 1 := by rcases hB with h | h | h | h | h <;> simp at h <;> omega
            subst hn
            go_wp2
            refine ⟨⟨k + 1, rfl, hlt, hbW3⟩, ?_⟩
            simp [intOf] <;> omega
        · by_cases g2 : c2 = 0
          · have hqn : ((c1 : Int) == 0) = false := by rw [beq_eq_false_iff_ne]; omega
            have hA := HL.out.2
            subst g2
            clear HE1 HE2 hu1 hu2 HL
            by_cases k2 : k = 2
            · subst k2
              go_wp2
              refine ⟨⟨3, rfl, by omega, hbW3⟩, ?_⟩
              simp [intOf] <;> omega
            by_cases k3 : k = 3
            · subst k3
              go_wp2
              refine ⟨⟨4, rfl, by omega, hbW3⟩, ?_⟩
              simp [intOf] <;> omega
            have hk2 : ((k : Int) != 2) = true := by rw [bne_iff_ne]; omega
            have hk3 : ((k : Int) != 3) = true := by rw [bne_iff_ne]; omega
            have hB := hA ⟨k2, k3⟩
            by_cases n2 : c1 = 2
            · subst n2
              go_wp2
              refine ⟨⟨k + 1, rfl, hlt, hbW3⟩, ?_⟩
              simp [intOf] <;> omega
            have hn : c1 = 1 := by rcases hB with h | h | h | h | h <;> simp at h <;> omega
            subst hn
            go_wp2
            refine ⟨⟨k + 1, rfl, hlt, hbW3⟩, ?_⟩
            simp [intOf] <;> omega
          · have hq1 : ((c1 : Int) == 0) = false := by rw [beq_eq_false_iff_ne]; omega
            have hq2 : ((c2 : Int) == 0) = false := by rw [beq_eq_false_iff_ne]; omega
            clear HE1 HE2 hu1 hu2 HL
            go_wp2
            refine ⟨⟨k + 1, rfl, hlt, hbW3⟩, ?_⟩
            simp [intOf] <;> omega
      · obtain rfl : k = 6 := by omega
        clear hps hlaw HVW
        have hba : Below wr.heap.size wr (wr.alloc (.cells #[.string oSelf, .int .i64 0, .slice none 0 0, .string ⟨#[]⟩, .int .i64 0, .bool false, .int .i64 0, .float .f64 0, .string ⟨#[]⟩, .slice none 0 0, .int .u64 0, .slice none 0 0, .slice none 0 0, .string ⟨#[]⟩, .int .i64 0] 32)) := (Below.refl _ _).alloc (Nat.le_refl _) _
        have hsa : (wr.alloc (.cells #[.string oSelf, .int .i64 0, .slice none 0 0, .string ⟨#[]⟩, .int .i64 0, .bool false, .int .i64 0, .float .f64 0, .string ⟨#[]⟩, .slice none 0 0, .int .u64 0, .slice none 0 0, .slice none 0 0, .string ⟨#[]⟩, .int .i64 0] 32)).heap.size = wr.heap.size + 1 := by simp
        have HO := Lib.hid (op_any oNot (some ⟨wr.heap.size, 0, none⟩) [exOp oSelf []] 1 (fun b => b < (wr.alloc (.cells #[.string oSelf, .int .i64 0, .slice none 0 0, .string ⟨#[]⟩, .int .i64 0, .bool false, .int .i64 0, .float .f64 0, .string ⟨#[]⟩, .slice none 0 0, .int .u64 0, .slice none 0 0, .slice none 0 0, .string ⟨#[]⟩, .int .i64 0] 32)).heap.size) (wr.alloc (.cells #[.string oSelf, .int .i64 0, .slice none 0 0, .string ⟨#[]⟩, .int .i64 0, .bool false, .int .i64 0, .float .f64 0, .string ⟨#[]⟩, .slice none 0 0, .int .u64 0, .slice none 0 0, .slice none 0 0, .string ⟨#[]⟩, .int .i64 0] 32)) (fun b h => h) (by decide) (by decide) (.inr ⟨wr.heap.size, 0, rfl, by simp, ⟨[.string oSelf, .int .i64 0, .slice none 0 0, .string ⟨#[]⟩, .int .i64 0, .bool false, .int .i64 0, .float .f64 0, .string ⟨#[]⟩, .slice none 0 0, .int .u64 0, .slice none 0 0, .slice none 0 0, .string ⟨#[]⟩, .int .i64 0], by intro j u hj; rw [show (wr.alloc (.cells #[.string oSelf, .int .i64 0, .slice none 0 0, .string ⟨#[]⟩, .int .i64 0, .bool false, .int .i64 0, .float .f64 0, .string ⟨#[]⟩, .slice none 0 0, .int .u64 0, .slice none 0 0, .slice none 0 0, .string ⟨#[]⟩, .int .i64 0] 32)).cell? ⟨wr.heap.size, 0 + j, none⟩ = ([.string oSelf, .int .i64 0, .slice none 0 0, .string ⟨#[]⟩, .int .i64 0, .bool false, .int .i64 0, .float .f64 0, .string ⟨#[]⟩, .slice none 0 0, .int .u64 0, .slice none 0 0, .slice none 0 0, .string ⟨#[]⟩, .int .i64 0] : List Value)[j]? by simp [go_sem]]; exact hj, ⟨none, 0, _, rfl, by decide, ⟨by decide, by decide⟩, by decide, zeroTm_rd _ _, by decide, .inl rfl⟩⟩, trivial⟩))
        have HBA := Lib.hid hba
        clear hba
        unfold oNot oSelf at HO
        go_wp2_with fail
        refine HO.out.mono ?_
        rintro e w7 ⟨u, rfl, hu, hb7⟩
        have hb07 : Below wr.heap.size wr w7 := HBA.out.trans (hb7.mono (by rw [hsa]; omega))
        have hb27 : Below W.heap.size W w7 := hbr.trans (hb07.mono hzr)
        have hu7 : RdES w7 (fun b => b < w7.heap.size) (exOp oNot [exOp oSelf []]) u := RdES.more (fun b h => h.elim (fun h => Nat.lt_of_lt_of_le h hb7.size) (fun h => h.2)) _ _ hu
        have HE := Lib.hid (tell_any (exOp oNot [exOp oSelf []]) u (.bool false) (.iface 4 (.bool false)) (fun b => b < w7.heap.size) w7 (fun b h => h) hu7 rfl (HW1.out w7 hb27) (HW2.out w7 hb27))
        rw [evalR_one] at HE
        obtain ⟨x0, x1, x2, x3, x4, x5, x6, x7, x8, x9, x10, x11, x12, x13, x14, rfl, -⟩ := Ex.fifteen hu
        clear hu hu7
        unfold termOf at HE ⊢
        go_wp2_with fail
        refine HE.out.mono ?_
        rintro e w8 ⟨xv, rfl, hb8, hxv⟩
        obtain rfl := hxv
        have hfin : Below w.heap.size w w8 := HBW.out.trans ((hb27.trans (hb8.mono (by have := hb27.size; omega))).mono hwW)
        have kq : ∀ W : World, (binOp .eql 20 (.iface 4 (.bool true)) (.iface 4 (.bool true))).run Tryz.prog W = .ok (.bool true) W := fun W => by kernel_rfl
        go_wp2
        go_ret
        exact ⟨rfl, hfin⟩
end Go.Proofs.YtbemeapjeipjlaaGreatDoor
