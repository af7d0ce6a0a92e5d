/- Whether an expression can be, as a plain function; walks: query.can, valid. -/
import Derived.Test.YtbemeapjeipjlaaGreatDoorQL38
import Derived.Test.YtbemeapjeipjlaaGreatDoorQL37
set_option linter.unusedVariables false
set_option linter.unusedSimpArgs false
namespace Go.Proofs.YtbemeapjeipjlaaGreatDoor
open Go Go.RowKit
attribute [local go_sem] ta_no_bool ta_yes_bool ta_nil_bool ta_no_int64 ta_yes_int64 ta_nil_int64 ta_no_flt ta_yes_flt ta_nil_flt ta_no_str ta_yes_str ta_nil_str ta_no_byt ta_yes_byt ta_nil_byt ta_no_ref ta_yes_ref ta_nil_ref ta_no_lst ta_yes_lst ta_nil_lst ta_no_dct ta_yes_dct ta_nil_dct ta_no_rec ta_yes_rec ta_nil_rec
def wordList : List ByteArray := [⟨#[111, 114]⟩, ⟨#[97, 110, 100]⟩, ⟨#[110, 111, 116]⟩, ⟨#[105, 110]⟩, ⟨#[105, 115]⟩, ⟨#[110, 105, 108]⟩, ⟨#[116, 114, 117, 101]⟩, ⟨#[102, 97, 108, 115, 101]⟩, ⟨#[115, 101, 108, 102]⟩, ⟨#[110, 97, 110]⟩]
/- What an expression's word asks of its name or its value. -/
open Classical in
noncomputable def partOK (op nm : ByteArray) (t : Tm) : Bool :=
  if op = oValue then literalB t
  else if op = oField then nameOK nm && !decide (0 ≤ idxW wordList nm 0)
  else if op = oDot then nameOK nm
  else if op = oIs then decide (nm ≠ ⟨#[]⟩) && decide (0 ≤ idxW kindWords nm 0)
  else true
/- Parts one after the other, until one cannot be. -/
def canAll : List (Int → Bool × Int) → Int → Bool × Int
  | [], k => (true, k)
  | f :: r, k => if (f k).1 = true then canAll r (f k).2 else (false, (f k).2)
open Classical in
noncomputable def canS (op nm : ByteArray) (t : Tm) (l : List (Int → Bool × Int)) (k : Int) : Bool × Int :=
  if k - 1 < 0 ∨ takesV op nm < 0 ∨ (takesV op nm ≠ 9 ∧ (l.length : Int) ≠ takesV op nm) then (false, k - 1)
  else if partOK op nm t = true then canAll l (k - 1) else (false, k - 1)
mutual
noncomputable def canV : Ex → Int → Bool × Int
  | .mk op _ l nm t, k => canS op nm t (canVL l) k
noncomputable def canVL : List Ex → List (Int → Bool × Int)
  | [] => []
  | x :: r => canV x :: canVL r
end
theorem canVL_eq (l : List Ex) : canVL l = l.map canV := by
  induction l with
  | nil => rfl
  | cons x r ih => simp [canVL, ih]
theorem canAll_true : ∀ (l : List (Int → Bool × Int)) (k : Int), (canAll l k).1 = true → ∀ f ∈ l, ∃ k', (f k').1 = true
  | [], _, _, f, hf => by cases hf
  | g :: r, k, h, f, hf => by
    rw [canAll] at h
    by_cases hg : (g k).1 = true
    · rw [if_pos hg] at h
      rcases List.mem_cons.1 hf with rfl | hf
      · exact ⟨k, hg⟩
      · exact canAll_true r _ h f hf
    · rw [if_neg hg] at h; cases h
theorem fn_ok {nm : ByteArray} {k : Int} (h : (fnO nm).getD (-1) = k) (hk : 0 ≤ k) : (k = 1 ∧ nm ∈ [gLen, gKind, gKeys, gFirst, gLast, gSum, gLeast, gMost]) ∨ (k = 2 ∧ nm ∈ [gHas, gAny, gAll, gMap, gPick]) := by
  unfold fnO at h
  split at h
  · rename_i hm; exact .inl ⟨h.symm, hm⟩
  · split at h
    · rename_i hm; exact .inr ⟨h.symm, hm⟩
    · change -1 = k at h; omega
theorem takes_ok {op nm : ByteArray} {l : List Ex} (h0 : 0 ≤ takesV op nm) (h : takesV op nm = 9 ∨ (l.length : Int) = takesV op nm) : opOK op nm l := by
  unfold takesV at h0 h
  split at h0
  · rename_i e; subst e; exact .inl (by simp)
  rename_i e1
  rw [if_neg e1] at h
  split at h0
  · rename_i e; subst e
    rw [if_pos rfl] at h
    rcases fn_ok rfl h0 with ⟨hk, hm⟩ | ⟨hk, hm⟩
    · exact .inr (.inr (.inl ⟨rfl, .inl ⟨by omega, hm⟩⟩))
    · exact .inr (.inr (.inl ⟨rfl, .inr ⟨by omega, hm⟩⟩))
  rename_i e2
  rw [if_neg e2] at h
  split at h0
  · rename_i e; exact .inl (by simp only [List.mem_cons, List.mem_nil_iff, or_false] at e ⊢; rcases e with rfl | rfl | rfl <;> simp)
  rename_i e3
  rw [if_neg e3] at h
  split at h0
  · rename_i e
    rw [if_pos e] at h
    exact .inr (.inl ⟨by simp only [List.mem_cons, List.mem_nil_iff, or_false] at e ⊢; rcases e with rfl | rfl | rfl | rfl <;> simp, by omega⟩)
  rename_i e4
  rw [if_neg e4] at h
  split at h0
  · rename_i e
    rw [if_pos e] at h
    unfold levelled at e
    simp only [List.mem_cons, List.mem_nil_iff, or_false] at e
    rcases e with rfl | rfl | rfl | rfl | rfl | rfl | rfl | rfl | rfl | rfl | rfl | rfl | rfl | rfl | rfl | rfl | rfl | rfl | rfl
    · exact .inl (by simp)
    · exact .inl (by simp)
    · exact absurd (by simp) e4
    · exact .inr (.inr (.inr ⟨by simp, by omega⟩))
    · exact .inr (.inr (.inr ⟨by simp, by omega⟩))
    · exact .inr (.inr (.inr ⟨by simp, by omega⟩))
    · exact .inr (.inr (.inr ⟨by simp, by omega⟩))
    · exact .inr (.inr (.inr ⟨by simp, by omega⟩))
    · exact .inr (.inr (.inr ⟨by simp, by omega⟩))
    · exact .inr (.inr (.inr ⟨by simp, by omega⟩))
    · exact absurd (by simp) e4
    · exact .inr (.inr (.inr ⟨by simp, by omega⟩))
    · exact .inr (.inr (.inr ⟨by simp, by omega⟩))
    · exact .inr (.inr (.inr ⟨by simp, by omega⟩))
    · exact .inr (.inr (.inr ⟨by simp, by omega⟩))
    · exact .inr (.inr (.inr ⟨by simp, by omega⟩))
    · exact absurd (by simp) e4
    · exact absurd (by simp) e4
    · exact .inr (.inr (.inr ⟨by simp, by omega⟩))
  · omega
theorem canV_ok (e : Ex) : ∀ k, (canV e k).1 = true → canE e := by
  induction e using Ex.ind with
  | h op a l nm t ih =>
    intro k h
    rw [canV] at h
    unfold canS at h
    split at h
    · cases h
    · rename_i hc
      split at h
      · refine ⟨takes_ok (by omega) ?_, canEL_iff.2 fun x hx => ?_⟩
        · have : (canVL l).length = l.length := by rw [canVL_eq]; simp
          rw [this] at hc
          omega
        · obtain ⟨k', hk'⟩ := canAll_true _ _ h (canV x) (by rw [canVL_eq]; exact List.mem_map.2 ⟨x, hx, rfl⟩)
          exact ih x hx k' hk'
      · cases h
end Go.Proofs.YtbemeapjeipjlaaGreatDoor
/- Walks: query.can, its closure, slices.IndexFunc and ContainsFunc of expressions. -/
namespace Go.Proofs.YtbemeapjeipjlaaGreatDoor
open Go Go.RowKit
attribute [local go_sem] ta_no_bool ta_yes_bool ta_nil_bool ta_no_int64 ta_yes_int64 ta_nil_int64 ta_no_flt ta_yes_flt ta_nil_flt ta_no_str ta_yes_str ta_nil_str ta_no_byt ta_yes_byt ta_nil_byt ta_no_ref ta_yes_ref ta_nil_ref ta_no_lst ta_yes_lst ta_nil_lst ta_no_dct ta_yes_dct ta_nil_dct ta_no_rec ta_yes_rec ta_nil_rec
theorem canAll_mono {l : List (Int → Bool × Int)} (h : ∀ f ∈ l, ∀ k, 0 ≤ k → (f k).1 = true → 0 ≤ (f k).2 ∧ (f k).2 ≤ k) : ∀ k, 0 ≤ k → (canAll l k).1 = true → 0 ≤ (canAll l k).2 ∧ (canAll l k).2 ≤ k := by
  induction l with
  | nil => intro k hk _; exact ⟨hk, Int.le_refl _⟩
  | cons f r ih =>
    intro k hk ht
    rw [canAll] at ht ⊢
    by_cases hf : (f k).1 = true
    · rw [if_pos hf] at ht ⊢
      have h1 := h f (by simp) k hk hf
      have h2 := ih (fun g hg => h g (by simp [hg])) _ h1.1 ht
      exact ⟨h2.1, Int.le_trans h2.2 h1.2⟩
    · rw [if_neg hf] at ht; cases ht
theorem canV_mono (e : Ex) : ∀ k, 0 ≤ k → (canV e k).1 = true → 0 ≤ (canV e k).2 ∧ (canV e k).2 ≤ k := by
  induction e using Ex.ind with
  | h op a l nm t ih =>
    intro k hk h
    rw [canV] at h ⊢
    unfold canS at h ⊢
    split at h
    · cases h
    · rename_i hc
      split at h
      · rename_i hp
        rw [if_neg hc, if_pos hp]
        have := canAll_mono (l := canVL l) (fun f hf => by
          rw [canVL_eq] at hf
          obtain ⟨x, hx, rfl⟩ := List.mem_map.1 hf
          exact ih x hx) (k - 1) (by omega) h
        exact ⟨this.1, by omega⟩
      · cases h
def CanPost (bl : Nat) (r : Bool × Int) (w : World) (e : Ending) (w' : World) : Prop := e = .returned (.bool r.1) ∧ Aside bl w w' ∧ Hold w' bl 0 (.int .i64 r.2)
def CanC (e : Ex) : Prop := ∀ (x : List Value) (k : Int) (S : Nat → Prop) (w : World) (bl : Nat), Seen S w bl → bl < w.heap.size → 0 ≤ k → k ≤ 16384 → RdES w S e x → Words w S 1 kindWords → Words w S 2 wordList → Hold w bl 0 (.int .i64 k) →
  Calls Tryz.prog 57 #[termOf x, .pointer (some ⟨bl, 0, none⟩)] w (CanPost bl (canV e k) w)
set_option maxRecDepth 100000 in
set_option maxHeartbeats 1000000 in
theorem can1_any (e : Ex) (ih : CanC e) (x : List Value) (k : Int) (S : Nat → Prop) (w : World) (bl bp : Nat) (hS : Seen S w bl) (hbl : bl < w.heap.size) (hk : 0 ≤ k) (hk2 : k ≤ 16384) (hx : RdES w S e x) (hw : Words w S 1 kindWords) (hw2 : Words w S 2 wordList) (hh : Hold w bl 0 (.int .i64 k)) (hbp : bp < w.heap.size) (q : w.cell? ⟨bp, 0, none⟩ = some (.pointer (some ⟨bl, 0, none⟩))) :
    Calls Tryz.prog 88 #[termOf x, .pointer (some ⟨bp, 0, none⟩)] w (CanPost bl (!(canV e k).1, (canV e k).2) w) := by
  have HC := Lib.hid (fun (W : World) (hW : Below w.heap.size w W) => ih x k S W bl (hS.to hW.size) (Nat.lt_of_lt_of_le hbl hW.size) hk hk2 (hx.aside hS (Aside.of_below hW)) (hw.aside hS (Aside.of_below hW)) (hw2.aside hS (Aside.of_below hW)) (hh.below hW hbl))
  unfold CanPost at *
  clear ih hw hw2 hh
  generalize canV e k = r at *
  obtain ⟨op', a', l', nm', t'⟩ := e
  obtain ⟨A', c', y', rfl, -, -, -, hty, -⟩ := hx
  obtain ⟨m0, m1, m2, m3, m4, m5, m6, m7, m8, m9, m10, rfl, h1c⟩ := hty.elevenS
  have hB : Below w.heap.size w (w.alloc (.cells #[.string op', .int .i64 a', .slice A' l'.length c', .string nm', m0, m1, m2, m3, m4, m5, m6, m7, m8, m9, m10] 32)) := (Below.refl _ _).alloc (Nat.le_refl _) _
  have HB := Lib.hid hB
  have q' := (hB.cell (p := ⟨bp, 0, none⟩) hbp).trans q
  clear hty h1c hS hB
  unfold termOf at *
  go_enter Tryz.func88, Tryz.ntmps88
  go_wp2_with fail
  refine (HC.out _ HB.out).mono ?_
  rintro e w1 ⟨rfl, hA, hH⟩
  go_wp2
  go_ret
  exact ⟨rfl, (Aside.of_below HB.out).trans hA, hH⟩
theorem canVL_drop {l : List Ex} {k : Nat} {x : Ex} (hx : l[k]? = some x) : (canVL l).drop k = canV x :: (canVL l).drop (k + 1) := by
  rw [canVL_eq]
  obtain ⟨hk, e⟩ := List.getElem?_eq_some_iff.1 hx
  rw [List.drop_eq_getElem_cons (by simpa using hk)]
  simp [e]
theorem canVL_end {l : List Ex} : (canVL l).drop l.length = [] := by rw [canVL_eq]; simp
def IndexEPost (bl : Nat) (r : Bool × Int) (w : World) (e : Ending) (w' : World) : Prop := ∃ j : Int, e = .returned (.int .i64 j) ∧ (!decide (0 ≤ j)) = r.1 ∧ Aside bl w w' ∧ Hold w' bl 0 (.int .i64 r.2)
set_option maxRecDepth 100000 in
set_option maxHeartbeats 1000000 in
theorem indexE_any (l : List Ex) (ih : ∀ x ∈ l, CanC x) (A : Option Addr) (c : Nat) (k0 : Int) (S : Nat → Prop) (w : World) (bl bp : Nat) (hS : Seen S w bl) (hbl : bl < w.heap.size) (hk : 0 ≤ k0) (hk2 : k0 ≤ 16384) (hll : l.length * 216 ≤ 140737488351232) (hp : PartsS w S A l) (hw : Words w S 1 kindWords) (hw2 : Words w S 2 wordList) (hh : Hold w bl 0 (.int .i64 k0)) (hbp : bp < w.heap.size) (hne : bp ≠ bl) (q : w.cell? ⟨bp, 0, none⟩ = some (.pointer (some ⟨bl, 0, none⟩))) :
    Calls Tryz.prog 130 #[.slice A l.length c, .func (.func 88) #[] #[.pointer (some ⟨bp, 0, none⟩)]] w (IndexEPost bl (canAll (canVL l) k0) w) := by
  have HCl := Lib.hid (fun (x : Ex) (hx : x ∈ l) (xs : List Value) (k : Int) (W : World) (hW : Aside bl w W) (hk : 0 ≤ k) (hk2 : k ≤ 16384) (hxs : RdES w S x xs) (hH : Hold W bl 0 (.int .i64 k)) => can1_any x (ih x hx) xs k S W bl bp (hS.to hW.size) (Nat.lt_of_lt_of_le hbl hW.size) hk hk2 (hxs.aside hS hW) (hw.aside hS hW) (hw2.aside hS hW) hH (Nat.lt_of_lt_of_le hbp hW.size) ((hW.cell (p := ⟨bp, 0, none⟩) hbp hne).trans q))
  clear ih hw hw2
  go_enter Tryz.func130, Tryz.ntmps130
  go_wp2
  go_loopw [8] (fun i wr => ∃ (j : Nat) (k : Int), i = .int .i64 j ∧ j ≤ l.length ∧ 0 ≤ k ∧ k ≤ 16384 ∧ Hid (canAll (canVL l) k0 = canAll ((canVL l).drop j) k) ∧ Aside bl w wr ∧ Hold wr bl 0 (.int .i64 k)) (fun i _ => l.length - (intOf i).toNat)
  case atStart => exact ⟨0, k0, rfl, by omega, hk, hk2, Lib.hid rfl, Aside.refl _ _, hh⟩
  case round =>
    obtain ⟨j, k, rfl, hj, hkk, hkk2, HT, hA, hH⟩ := hrel
    by_cases hlt : j < l.length
    · obtain ⟨x, hx⟩ : ∃ x, l[j]? = some x := ⟨_, List.getElem?_eq_getElem hlt⟩
      obtain ⟨b, off, xs, rfl, hSb, c0, hxs⟩ := hp.get hx
      have c1 := c0.keep (fun p hp => hA.cell (by rw [hp]; exact (hS b hSb).1) (by rw [hp]; exact (hS b hSb).2))
      have HC := Lib.hid (HCl.out x (List.mem_of_getElem? hx) xs k wr hA hkk hkk2 hxs hH)
      have HU : Hid (canAll (canVL l) k0 = if (canV x k).1 = true then canAll ((canVL l).drop (j + 1)) (canV x k).2 else (false, (canV x k).2)) := Lib.hid (by rw [HT.out, canVL_drop hx, canAll])
      have HM := Lib.hid (canV_mono x k hkk)
      unfold CanPost at HC
      generalize canV x k = r at *
      obtain ⟨op', a', l', nm', t'⟩ := x
      obtain ⟨A', c', y', rfl, -, -, -, hty, -⟩ := hxs
      obtain ⟨m0, m1, m2, m3, m4, m5, m6, m7, m8, m9, m10, rfl, h1c⟩ := hty.elevenS
      have q0 := c1 0 _ rfl
      have q1 := c1 1 _ rfl
      have q2 := c1 2 _ rfl
      have q3 := c1 3 _ rfl
      have q4 := c1 4 _ rfl
      have q5 := c1 5 _ rfl
      have q6 := c1 6 _ rfl
      have q7 := c1 7 _ rfl
      have q8 := c1 8 _ rfl
      have q9 := c1 9 _ rfl
      have q10 := c1 10 _ rfl
      have q11 := c1 11 _ rfl
      have q12 := c1 12 _ rfl
      have q13 := c1 13 _ rfl
      have q14 := c1 14 _ rfl
      simp only [Nat.add_zero] at q0
      unfold termOf at HC
      clear hp hx c0 c1 hty h1c HCl HT hH
      obtain ⟨rb, rk⟩ := r
      cases rb with
      | true =>
        have HU2 : Hid (canAll (canVL l) k0 = canAll ((canVL l).drop (j + 1)) rk) := Lib.hid (by rw [HU.out]; rfl)
        have hm := HM.out rfl
        go_wp2_with fail
        refine HC.out.mono ?_
        rintro e w1 ⟨rfl, hA2, hH2⟩
        go_wp2
        refine ⟨⟨j + 1, rk, rfl, hlt, hm.1, Int.le_trans hm.2 hkk2, HU2, hA.trans hA2, hH2⟩, ?_⟩
        simp [intOf]; omega
      | false =>
        have HU2 : Hid (canAll (canVL l) k0 = (false, rk)) := Lib.hid (by rw [HU.out]; rfl)
        go_wp2_with fail
        refine HC.out.mono ?_
        rintro e w1 ⟨rfl, hA2, hH2⟩
        go_wp2
        go_ret
        exact ⟨j, rfl, by rw [HU2.out]; simp, hA.trans hA2, by rw [HU2.out]; exact hH2⟩
    · obtain rfl : j = l.length := by omega
      have HU2 : Hid (canAll (canVL l) k0 = (true, k)) := Lib.hid (by rw [HT.out, canVL_end]; rfl)
      clear hp HCl HT
      go_wp2
      go_ret
      exact ⟨-1, rfl, by rw [HU2.out]; rfl, hA, by rw [HU2.out]; exact hH⟩
set_option maxRecDepth 100000 in
set_option maxHeartbeats 1000000 in
theorem containsE_any (l : List Ex) (ih : ∀ x ∈ l, CanC x) (A : Option Addr) (c : Nat) (k0 : Int) (S : Nat → Prop) (w : World) (bl bp : Nat) (hS : Seen S w bl) (hbl : bl < w.heap.size) (hk : 0 ≤ k0) (hk2 : k0 ≤ 16384) (hll : l.length * 216 ≤ 140737488351232) (hp : PartsS w S A l) (hw : Words w S 1 kindWords) (hw2 : Words w S 2 wordList) (hh : Hold w bl 0 (.int .i64 k0)) (hbp : bp < w.heap.size) (hne : bp ≠ bl) (q : w.cell? ⟨bp, 0, none⟩ = some (.pointer (some ⟨bl, 0, none⟩))) :
    Calls Tryz.prog 87 #[.slice A l.length c, .func (.func 88) #[] #[.pointer (some ⟨bp, 0, none⟩)]] w (CanPost bl (!(canAll (canVL l) k0).1, (canAll (canVL l) k0).2) w) := by
  have HI := Lib.hid (indexE_any l ih A c k0 S w bl bp hS hbl hk hk2 hll hp hw hw2 hh hbp hne q)
  unfold IndexEPost CanPost at *
  clear ih hp hw hw2 hh
  go_enter Tryz.func87, Tryz.ntmps87
  go_wp2_with fail
  refine HI.out.mono ?_
  rintro e w1 ⟨j, rfl, hj, hA, hH⟩
  have HJ := Lib.hid hj
  clear hj
  go_wp2
  go_ret
  exact ⟨ret_bool (by rw [← HJ.out]; simp), hA, hH⟩
end Go.Proofs.YtbemeapjeipjlaaGreatDoor
