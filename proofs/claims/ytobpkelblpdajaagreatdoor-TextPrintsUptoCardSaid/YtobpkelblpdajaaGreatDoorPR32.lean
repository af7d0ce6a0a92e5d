/- Walk: the document's text of a term that has no terms in it. -/
import Derived.Test.YtobpkelblpdajaaGreatDoorPR28
import Derived.Test.YtobpkelblpdajaaGreatDoorPR31
import Derived.Test.YtobpkelblpdajaaGreatDoorPR24
import Derived.Lib.AppendZeros
set_option linter.unusedVariables false
set_option linter.unusedSimpArgs false
set_option linter.unusedSectionVars false
namespace Go.Proofs.YtobpkelblpdajaaGreatDoor
open Go Go.RowKit
def ROneC (T : Tm) : Prop := ∀ (x : List Value) (w : World) (ln : Bool) (dp : Nat), RdT w w.heap.size T x → Fit (builtV T) dp → Calls Tryz.prog 123 #[termOf x] w (TextPost (putV ln (builtV T) dp) w)
theorem itoa_short {n : Int} (h : i64B n) : (Lib.itoa n).length ≤ 21 := Lib.itoa_length_le n h.1 h.2
set_option maxRecDepth 100000 in
set_option maxHeartbeats 2000000 in
theorem rone_1 (b : Bool) (i : Int) (f : Nat) (t : ByteArray) (bs : List UInt8) (r : Int) (l : List Tm) (d : List (ByteArray × Tm)) (c : ByteArray) (v : Int) : ROneC (.mk 1 b i f t bs r l d c v) := by
  rintro x w ln dp ⟨Ab, cb, Al, cl, Ad, cd, rfl, hk, hi, ht, hbl, ⟨hbn, hbs⟩, hr0, hr1, hc, hv, ⟨hll, hl⟩, ⟨hdl, hd⟩⟩ hfit
  have hB : builtV (.mk 1 b i f t bs r l d c v) = .nil := by simp [builtV]
  rw [hB] at hfit ⊢
  have HT : Hid (putV ln (.nil) dp = [110, 105, 108]) := Lib.hid (by rw [putV])
  rw [HT.out]
  clear hbs hl hd hbn hbl hll hdl
  unfold termOf
  go_enter Tryz.func123, Tryz.ntmps123
  go_wp2_with fail
  go_ret
  exact ⟨rfl, ((Below.refl _ _).alloc (Nat.le_refl _) _)⟩
set_option maxRecDepth 100000 in
set_option maxHeartbeats 2000000 in
theorem rone_2 (b : Bool) (i : Int) (f : Nat) (t : ByteArray) (bs : List UInt8) (r : Int) (l : List Tm) (d : List (ByteArray × Tm)) (c : ByteArray) (v : Int) : ROneC (.mk 2 b i f t bs r l d c v) := by
  rintro x w ln dp ⟨Ab, cb, Al, cl, Ad, cd, rfl, hk, hi, ht, hbl, ⟨hbn, hbs⟩, hr0, hr1, hc, hv, ⟨hll, hl⟩, ⟨hdl, hd⟩⟩ hfit
  have hB : builtV (.mk 2 b i f t bs r l d c v) = .bool b := by simp [builtV]
  rw [hB] at hfit ⊢
  have HT : Hid (putV ln (.bool b) dp = if b = true then truB else falB) := Lib.hid (by rw [putV])
  rw [HT.out]
  clear hbs hl hd hbn hbl hll hdl
  unfold termOf
  go_enter Tryz.func123, Tryz.ntmps123
  cases b
  · go_wp2_with fail
    go_ret
    exact ⟨rfl, ((Below.refl _ _).alloc (Nat.le_refl _) _)⟩
  · go_wp2_with fail
    go_ret
    exact ⟨rfl, ((Below.refl _ _).alloc (Nat.le_refl _) _)⟩
set_option maxRecDepth 100000 in
set_option maxHeartbeats 2000000 in
theorem rone_3 (b : Bool) (i : Int) (f : Nat) (t : ByteArray) (bs : List UInt8) (r : Int) (l : List Tm) (d : List (ByteArray × Tm)) (c : ByteArray) (v : Int) : ROneC (.mk 3 b i f t bs r l d c v) := by
  rintro x w ln dp ⟨Ab, cb, Al, cl, Ad, cd, rfl, hk, hi, ht, hbl, ⟨hbn, hbs⟩, hr0, hr1, hc, hv, ⟨hll, hl⟩, ⟨hdl, hd⟩⟩ hfit
  have hB : builtV (.mk 3 b i f t bs r l d c v) = .int i := by simp [builtV]
  rw [hB] at hfit ⊢
  have HT : Hid (putV ln (.int i) dp = Lib.itoa i) := Lib.hid (by rw [putV])
  have HC := Lib.hid (fun (W : World) => rint_any i hi.1 hi.2 W)
  rw [HT.out]
  clear hbs hl hd hbn hbl hll hdl
  unfold termOf
  go_enter Tryz.func123, Tryz.ntmps123
  go_wp2_with fail
  refine (HC.out _).mono ?_
  rintro e w1 ⟨rfl, hb1⟩
  go_wp2_with fail
  go_ret
  exact ⟨rfl, (((Below.refl _ _).alloc (Nat.le_refl _) _)).trans (hb1.mono (by simp))⟩
set_option maxRecDepth 100000 in
set_option maxHeartbeats 2000000 in
theorem rone_4 (b : Bool) (i : Int) (f : Nat) (t : ByteArray) (bs : List UInt8) (r : Int) (l : List Tm) (d : List (ByteArray × Tm)) (c : ByteArray) (v : Int) : ROneC (.mk 4 b i f t bs r l d c v) := by
  rintro x w ln dp ⟨Ab, cb, Al, cl, Ad, cd, rfl, hk, hi, ht, hbl, ⟨hbn, hbs⟩, hr0, hr1, hc, hv, ⟨hll, hl⟩, ⟨hdl, hd⟩⟩ hfit
  have hB : builtV (.mk 4 b i f t bs r l d c v) = .flt f := by simp [builtV]
  rw [hB] at hfit ⊢
  have HT : Hid (putV ln (.flt f) dp = fltT f) := Lib.hid (by rw [putV])
  have HC := Lib.hid (fun (W : World) => rfloat_any f W hfit)
  rw [HT.out]
  clear hbs hl hd hbn hbl hll hdl
  unfold termOf
  go_enter Tryz.func123, Tryz.ntmps123
  go_wp2_with fail
  refine (HC.out _).mono ?_
  rintro e w1 ⟨rfl, hb1⟩
  go_wp2_with fail
  go_ret
  exact ⟨rfl, (((Below.refl _ _).alloc (Nat.le_refl _) _)).trans (hb1.mono (by simp))⟩
set_option maxRecDepth 100000 in
set_option maxHeartbeats 2000000 in
theorem rone_5 (b : Bool) (i : Int) (f : Nat) (t : ByteArray) (bs : List UInt8) (r : Int) (l : List Tm) (d : List (ByteArray × Tm)) (c : ByteArray) (v : Int) : ROneC (.mk 5 b i f t bs r l d c v) := by
  rintro x w ln dp ⟨Ab, cb, Al, cl, Ad, cd, rfl, hk, hi, ht, hbl, ⟨hbn, hbs⟩, hr0, hr1, hc, hv, ⟨hll, hl⟩, ⟨hdl, hd⟩⟩ hfit
  have hB : builtV (.mk 5 b i f t bs r l d c v) = .text t := by simp [builtV]
  rw [hB] at hfit ⊢
  have HT : Hid (putV ln (.text t) dp = quoteB t.data.toList) := Lib.hid (by rw [putV])
  have hts : t.size ≤ 65536 := hfit
  have HC := Lib.hid (fun (W : World) => rquote_any t W (by omega))
  rw [HT.out]
  clear hbs hl hd hbn hbl hll hdl
  unfold termOf
  go_enter Tryz.func123, Tryz.ntmps123
  go_wp2_with fail
  refine (HC.out _).mono ?_
  rintro e w1 ⟨rfl, hb1⟩
  go_wp2_with fail
  go_ret
  exact ⟨rfl, (((Below.refl _ _).alloc (Nat.le_refl _) _)).trans (hb1.mono (by simp))⟩
set_option maxRecDepth 100000 in
set_option maxHeartbeats 2000000 in
theorem rone_7 (b : Bool) (i : Int) (f : Nat) (t : ByteArray) (bs : List UInt8) (r : Int) (l : List Tm) (d : List (ByteArray × Tm)) (c : ByteArray) (v : Int) : ROneC (.mk 7 b i f t bs r l d c v) := by
  rintro x w ln dp ⟨Ab, cb, Al, cl, Ad, cd, rfl, hk, hi, ht, hbl, ⟨hbn, hbs⟩, hr0, hr1, hc, hv, ⟨hll, hl⟩, ⟨hdl, hd⟩⟩ hfit
  have hB : builtV (.mk 7 b i f t bs r l d c v) = .ref r := by simp [builtV]
  rw [hB] at hfit ⊢
  have HT : Hid (putV ln (.ref r) dp = 64 :: Lib.decDigits r.toNat) := Lib.hid (by rw [putV])
  have HC : Hid (∀ W : World, Calls Tryz.prog 76 #[.int .u64 r] W (TextPost (Lib.decDigits r.toNat) W)) := Lib.hid (fun W => by have := dec_any r.toNat (by omega) W; rwa [show ((r.toNat : Nat) : Int) = r by omega] at this)
  have hl9 : (Lib.decDigits r.toNat).length ≤ 20 := by rw [Lib.decDigits_length]; exact Lib.nDigits_le20 _ (by omega)
  generalize Lib.decDigits r.toNat = L9 at *
  have s9 : (⟨L9.toArray⟩ : ByteArray).size = L9.length := by simp [ByteArray.size]
  rw [HT.out]
  clear hbs hl hd hbn hbl hll hdl
  unfold termOf
  go_enter Tryz.func123, Tryz.ntmps123
  go_wp2_with fail
  refine (HC.out _).mono ?_
  rintro e w1 ⟨rfl, hb1⟩
  go_wp2_with fail
  go_ret
  exact ⟨text_end (by simp [ByteArray.data_append]), (((Below.refl _ _).alloc (Nat.le_refl _) _)).trans (hb1.mono (by simp))⟩
set_option maxRecDepth 100000 in
set_option maxHeartbeats 2000000 in
theorem rone_6 (b : Bool) (i : Int) (f : Nat) (t : ByteArray) (bs : List UInt8) (r : Int) (l : List Tm) (d : List (ByteArray × Tm)) (c : ByteArray) (v : Int) : ROneC (.mk 6 b i f t bs r l d c v) := by
  rintro x w ln dp ⟨Ab, cb, Al, cl, Ad, cd, rfl, hk, hi, ht, hbl, ⟨hbn, hbs⟩, hr0, hr1, hc, hv, ⟨hll, hl⟩, ⟨hdl, hd⟩⟩ hfit
  have hB : builtV (.mk 6 b i f t bs r l d c v) = .bytes bs := by simp [builtV]
  rw [hB] at hfit ⊢
  have HT : Hid (putV ln (.bytes bs) dp = hexB bs) := Lib.hid (by rw [putV])
  rw [HT.out]
  have hbs6 : bs.length ≤ 65536 := hfit
  obtain ⟨i0, hi0, hz0, hz1, hz2⟩ := info_parts Tryz.infoByte
  have HBS := Lib.hid hbs
  clear hbs hl hd hbn hbl hll hdl HT hB hfit
  unfold termOf
  go_enter Tryz.func123, Tryz.ntmps123
  go_wp2_with fail
  go_loopg [3, 4] bs.length (fun g y j wr => ∃ k : Nat, j = .int .i64 k ∧ k + g = bs.length ∧ OwnB wr (w.heap.size + 1) y (35 :: (bs.take k).flatMap fun c => [hexc (c.toNat / 16), hexc (c.toNat % 16)]) ∧ Below (w.heap.size + 1) (w.alloc (.cells #[.int .i64 6, .bool b, .int .i64 i, .float .f64 f, .string t, .slice Ab bs.length cb, .int .u64 r, .slice Al l.length cl, .slice Ad d.length cd, .string c, .int .i64 v] 29)) wr)
  case atStart =>
    have h := World.ownsRow_lit (w.alloc (.cells #[.int .i64 6, .bool b, .int .i64 i, .float .f64 f, .string t, .slice Ab bs.length cb, .int .u64 r, .slice Al l.length cl, .slice Ad d.length cd, .string c, .int .i64 v] 29)) #[.int .u8 35] 1 (Nat.le_refl _) (by decide) (e := 5) (size := 1) rfl
    refine ⟨0, rfl, by omega, ?_, (Below.refl _ _).alloc (by simp) _⟩
    have h2 : (w.alloc (.cells #[.int .i64 6, .bool b, .int .i64 i, .float .f64 f, .string t, .slice Ab bs.length cb, .int .u64 r, .slice Al l.length cl, .slice Ad d.length cd, .string c, .int .i64 v] 29)).heap.size = w.heap.size + 1 := by simp
    rw [h2] at h
    exact h
  case round =>
    obtain ⟨k, rfl, hkg, hown, hb⟩ := hrel
    have hsz := hb.size
    have hsz2 : w.heap.size + 1 ≤ wr.heap.size := by simpa using hsz
    have hc5 : wr.cell? ⟨w.heap.size, 5, none⟩ = some (.slice Ab bs.length cb) := (hb.cell (p := ⟨w.heap.size, 5, none⟩) (by simp)).trans (by simp [go_sem])
    have hfl : ((bs.take k).flatMap fun c => [hexc (c.toNat / 16), hexc (c.toNat % 16)]).length ≤ 2 * bs.length := by
      have h1 : (bs.take k).length ≤ bs.length := by rw [List.length_take]; omega
      have h2 := hexB_len (bs.take k)
      unfold hexB at h2
      rw [List.length_cons] at h2
      omega
    have hn5 : (35 :: (bs.take k).flatMap fun c => [hexc (c.toNat / 16), hexc (c.toNat % 16)]).length ≤ 200000 := by rw [List.length_cons]; omega
    obtain ⟨L, hL⟩ : ∃ L, L = 35 :: (bs.take k).flatMap fun c => [hexc (c.toNat / 16), hexc (c.toNat % 16)] := ⟨_, rfl⟩
    rw [← hL] at hown hn5
    have HL := Lib.hid hL
    clear hL hfl
    obtain ⟨A1, c1, rfl⟩ := ownsRow_form hown
    cases gk with
    | zero =>
      obtain rfl : k = bs.length := by omega
      have HE : Hid (hexB bs = L) := Lib.hid (by rw [HL.out, List.take_length]; rfl)
      have hcv := conv_any hown
      have HB : Hid (Below w.heap.size w wr) := Lib.hid (((Below.refl _ _).alloc (Nat.le_refl _) _).trans (hb.mono (by omega)))
      clear hown hb
      go_wp2_with fail
      go_ret
      exact ⟨by rw [HE.out]; rfl, HB.out⟩
    | succ g =>
      obtain ⟨c8, hck⟩ : ∃ c8, bs[k]? = some c8 := ⟨_, List.getElem?_eq_getElem (by omega)⟩
      obtain ⟨bk, off, rfl, hbk, hrow⟩ := HBS.out.resolve_left (fun h => by rw [h] at hck; simp at hck)
      obtain ⟨n, hn⟩ : ∃ n : Int, n = (c8.toNat : Int) := ⟨_, rfl⟩
      have h0 : 0 ≤ n := by omega
      have h256 : n < 256 := by have := c8.toNat_lt; omega
      have hcb : wr.cell? ⟨bk, off + k, none⟩ = some (.int .u8 n) := by
        rw [hn]
        exact (hb.cell (p := ⟨bk, off + k, none⟩) (by show bk < _; have := hbk; omega)).trans ((((Below.refl w.heap.size w).alloc (Nat.le_refl _) _).cell (p := ⟨bk, off + k, none⟩) hbk).trans (hrow k c8 hck))
      have HN := Lib.hid hn
      have hlt : k < bs.length := by omega
      have HS : Hid (L ++ [hexc (c8.toNat / 16), hexc (c8.toNat % 16)] = 35 :: (bs.take (k + 1)).flatMap fun c => [hexc (c.toNat / 16), hexc (c.toNat % 16)]) := Lib.hid (by rw [HL.out, List.take_add_one, hck]; simp)
      clear hn hck hrow HBS
      have k1 := fun (W : World) => hex_hi W HN.out
      have k2 := fun (W : World) => hex_rem W HN.out
      have q1 : n.tdiv 16 = n / 16 := Int.tdiv_eq_ediv_of_nonneg h0
      have q2 : IntKind.u8.wrap (n / 16) = n / 16 := by rw [IntKind.wrap_u8]; omega
      have q3 : n.tmod 16 = n % 16 := Int.tmod_eq_emod_of_nonneg h0
      have q4 : IntKind.u8.wrap (n % 16) = n % 16 := by rw [IntKind.wrap_u8]; omega
      go_wp2_with fail
      refine wp_region_heldS (fun W => Below (w.heap.size + 1) wr W) 15 (by kernel_rfl) (by kernel_rfl) (fun _ _ _ _ _ h => h) ?_ ?_
      · ((exact (Below.refl _ _).drew))
      simp only [List.take_succ_cons, List.take_zero]
      repeat (refine HdS.step (fun K hK => ?_); go_simp; first | (refine hK _ ?_; clear hK K) | (apply Exists.intro; refine ⟨fun W hW => ?_, hK _ ?_⟩; (first | (intros; rfl) | ((have e5 := (hW.cell (p := ⟨w.heap.size, 5, none⟩) (by show w.heap.size < _; omega)).trans hc5; have ex := (hW.cell (p := ⟨bk, off + k, none⟩) (by show bk < _; have := hbk; omega)).trans hcb; go_simp; rfl))); clear hK K))
      refine HdS.nil ?_
      simp only [List.drop_succ_cons, List.drop_zero]
      have S1 := (((Below.refl (w.heap.size + 1) wr).alloc hsz2 (.cells #[.int .u8 (hexc (c8.toNat / 16)).toNat, .int .u8 (hexc (c8.toNat % 16)).toNat] 5)).drew)
      refine SeqS.step (fun K hK => ?_)
      go_simp
      refine hK _ _ S1 ?_
      clear hK K
      refine SeqS.step (fun K hK => ?_)
      refine wp_append_own _ (.tmp 36) (.tmp 51) 23 rfl (w.heap.size + 1) 5 i0 _ 1 1 Tryz.underlying23 hi0 hz0 hz1 hz2 rfl (by omega) (.slice A1 L.length c1) L.length _ rfl (World.ownsRow.drew (World.ownsRow.alloc hown _)) ⟨wr.heap.size, 0, none⟩ 2 2 [_, _] rfl rfl (news_at rfl) (one_of2 rfl rfl) (by unfold maxLen; omega) (by omega) (by simp; omega) ?_
      intro v2 w2 hn2 hg2 _
      have ho2 := OwnB.app (m := [hexc (c8.toNat / 16), hexc (c8.toNat % 16)]) rfl rfl hn2
      have S2 := S1.grown hg2 (by simp; omega) (fun j hj => (World.ownsRow.lt hown j hj).1)
      have HO : Hid (OwnB w2 (w.heap.size + 1) v2 (35 :: (bs.take (k + 1)).flatMap fun c => [hexc (c.toNat / 16), hexc (c.toNat % 16)]) ∧ Below (w.heap.size + 1) (w.alloc (.cells #[.int .i64 6, .bool b, .int .i64 i, .float .f64 f, .string t, .slice (some ⟨bk, off, none⟩) bs.length cb, .int .u64 r, .slice Al l.length cl, .slice Ad d.length cd, .string c, .int .i64 v] 29)) w2) := Lib.hid ⟨by rw [← HS.out]; exact ho2, hb.trans S2⟩
      obtain ⟨A2, c2, hv2⟩ := ownsRow_form ho2
      subst hv2
      refine hK _ _ S2 ?_
      clear hK K hn2 hg2 hown hb k1 k2 q1 q2 q3 q4 ho2 S1
      refine SeqS.step (fun K hK => ?_)
      go_simp
      refine hK _ _ S2 ?_
      clear hK K
      refine SeqS.nil ?_
      go_wp2_with fail
      go_roundg g
      case rel => exact ⟨k + 1, by go_num, by omega, by have h := HO.out.1; simpa using h, HO.out.2⟩
      case measure => omega
theorem rone_any (T : Tm) (h8 : ∀ l, builtV T ≠ .list l) (h9 : ∀ l, builtV T ≠ .dict l) (h10 : ∀ c v l, builtV T ≠ .record c v l) : ROneC T := by
  obtain ⟨k, b, i, f, t, bs, r, l, d, c, v⟩ := T
  by_cases k1 : k = 1
  · subst k1; exact rone_1 b i f t bs r l d c v
  by_cases k2 : k = 2
  · subst k2; exact rone_2 b i f t bs r l d c v
  by_cases k3 : k = 3
  · subst k3; exact rone_3 b i f t bs r l d c v
  by_cases k4 : k = 4
  · subst k4; exact rone_4 b i f t bs r l d c v
  by_cases k5 : k = 5
  · subst k5; exact rone_5 b i f t bs r l d c v
  by_cases k6 : k = 6
  · subst k6; exact rone_6 b i f t bs r l d c v
  by_cases k7 : k = 7
  · subst k7; exact rone_7 b i f t bs r l d c v
  by_cases k8 : k = 8
  · subst k8; exact absurd (by simp [builtV]) (h8 (builtL l))
  by_cases k9 : k = 9
  · subst k9; exact absurd (by simp [builtV]) (h9 (builtD d))
  by_cases k10 : k = 10
  · subst k10; exact absurd (by simp [builtV]) (h10 c v (builtD d))
  intro x w ln dp hx hf
  exfalso
  by_cases k11 : k = 11
  · subst k11; simp [builtV, Fit] at hf
  · simp [builtV, Fit, k1, k2, k3, k4, k5, k6, k7, k8, k9, k10, k11] at hf
end Go.Proofs.YtobpkelblpdajaaGreatDoor
/- Walk: the document's put: what it leans on; terms without terms. -/
namespace Go.Proofs.YtobpkelblpdajaaGreatDoor
open Go Go.RowKit
/- What lies below B stays, and of the rest whatever is no row of bytes. -/
def RK (B : Nat) (w w' : World) : Prop := Below B w w' ∧ Lib.OthersKept 5 none w w'
theorem RK.refl (B : Nat) (w : World) : RK B w w := ⟨Below.refl _ _, Lib.OthersKept.refl _ _ _⟩
theorem RK.trans {B : Nat} {a b c : World} (h : RK B a b) (g : RK B b c) : RK B a c := ⟨h.1.trans g.1, h.2.trans g.2⟩
theorem RK.alloc {B : Nat} {a w : World} (h : RK B a w) (hB : B ≤ w.heap.size) (o : Obj) : RK B a (w.alloc o) := ⟨h.1.alloc hB o, h.2.alloc o⟩
theorem RK.app1 {B : Nat} {a w w2 : World} {v : Value} {l : List UInt8} {o : Obj} (h : RK B a w) (hB : B ≤ w.heap.size) (hown : OwnB w B v l) (hg : (w.alloc o).grownBy w2 v.ownBlock) : RK B a w2 :=
  ⟨h.1.trans (grown_below hown hB hg), (h.2.alloc o).grown hg (by
    intro g hg
    obtain ⟨c, fz, hc⟩ := own_kind_row hown g hg
    exact ⟨c, fz, (heap_alloc_old _ _ (Array.getElem?_eq_some_iff.1 hc).1).trans hc⟩)⟩
theorem RK.app0 {B : Nat} {a w w2 : World} {v : Value} {l : List UInt8} (h : RK B a w) (hB : B ≤ w.heap.size) (hown : OwnB w B v l) (hg : w.grownBy w2 v.ownBlock) : RK B a w2 :=
  ⟨h.1.trans ((Below.refl B w).grown hg hB (fun j hj => (World.ownsRow.lt hown j hj).1)), h.2.grown hg (own_kind_row hown)⟩
theorem RK.call {B : Nat} {a w w2 : World} (h : RK B a w) (hB : B ≤ w.heap.size) (hb : Below w.heap.size w w2) : RK B a w2 :=
  ⟨h.1.trans (hb.mono hB), fun k o hk hne ho => by
    have h1 := h.2 k o hk hne ho
    have hlt : k < w.heap.size := (Array.getElem?_eq_some_iff.1 h1).1
    exact (hb.block k hlt).trans h1⟩
theorem RK.block {B : Nat} {w w' : World} (h : RK B w w') {k : Nat} {o : Obj} (hk : w.heap[k]? = some o) (ho : ∀ c fz, o ≠ .cells c 5 fz) : w'.heap[k]? = some o := h.2 k o hk (by simp) ho
theorem OwnB.to {w : World} {B : Nat} {v : Value} {l m : List UInt8} (h : OwnB w B v l) (e : l = m) : OwnB w B v m := e ▸ h
theorem OwnB.sapp {w : World} {B : Nat} {v : Value} {l : List UInt8} {s : ByteArray} (h : w.ownsRow B 5 1 v (l.length + s.size) (Lib.byteCells l ++ Lib.strCells s)) : OwnB w B v (l ++ s.data.toList) := by
  unfold OwnB
  rw [Lib.byteCells_append, List.length_append]
  have : s.data.toList.length = s.size := by simp
  rw [this]
  exact h
theorem OwnB.tapp {w : World} {B : Nat} {v : Value} {l m : List UInt8} (h : w.ownsRow B 5 1 v (l.length + (⟨m.toArray⟩ : ByteArray).size) (Lib.byteCells l ++ Lib.strCells ⟨m.toArray⟩)) : OwnB w B v (l ++ m) := OwnB.sapp h
theorem byte_ones (l : List UInt8) : ∀ u ∈ Lib.byteCells l, u.oneCell' = true := by
  intro u hu
  simp [Lib.byteCells] at hu
  obtain ⟨a, -, rfl⟩ := hu
  rfl
theorem run_append_of_nil {P : Program} (w : World) (base : Nat) (t ty e : TypeId) (i : TypeInfo) (size : Nat) (ht : P.underlying t = some (.slice e)) (hi : P.info? e = some i)
    (v : Value) (n : Nat) (xs : List Value) (hown : w.ownsRow base e size v n xs) (c : Nat) : (Builtin.append_ #[t, t] ty #[v, .slice none 0 c]).run P w = .ok v w := by
  rcases hown.2 with ⟨rfl, rfl⟩ | ⟨g, cap, cur, rfl, _, _, hnc, _⟩
  · simp [Builtin.append_, run_underlying ht, sizeOf, typeInfo, hi, Builtin.lenOf, Builtin.firstCells]
  · simp [Builtin.append_, run_underlying ht, sizeOf, typeInfo, hi, Builtin.lenOf, Builtin.firstCells, hnc, storeCells]
/- What an owned row that is not empty brings to an append. -/
theorem OwnB.src {w : World} {B : Nat} {v : Value} {l : List UInt8} (h : OwnB w B v l) (h0 : l ≠ []) : ∃ g c, v = .slice (some ⟨g, 0, none⟩) l.length c ∧ ∀ j u, (Lib.byteCells l)[j]? = some u → w.cell? ((⟨g, 0, none⟩ : Addr).add j) = some u := by
  rcases h.2 with ⟨_, hz⟩ | ⟨g, cap, cur, rfl, _⟩
  · exact absurd (List.eq_nil_of_length_eq_zero hz) h0
  · refine ⟨g, cap, rfl, fun j u hu => ?_⟩
    have := World.ownsRow.cells h (g := g) rfl j u hu
    simpa [Addr.add] using this
theorem tsize (l : List UInt8) : (⟨l.toArray⟩ : ByteArray).size = l.length := by simp [ByteArray.size]
def XKPost (B : Nat) (l : List UInt8) (w : World) (e : Ending) (w' : World) : Prop := ∃ v', e = .returned v' ∧ OwnB w' B v' l ∧ RK B w w'
def RPutC (ln : Bool) (T : Tm) : Prop := ∀ (x : List Value) (u : Value) (L : List UInt8) (B : Nat) (w : World) (dp : Nat), RdT w B T x → B ≤ w.heap.size → OwnB w B u L → Fit (builtV T) dp → L.length + 1048576 * cntV (builtV T) ≤ 137438953472 →
  Calls Tryz.prog 69 #[u, termOf x, .bool ln, .int .i64 dp] w (XKPost B (L ++ putV ln (builtV T) dp) w)
theorem breaks_no (d : Nat) (w : World) : Calls Tryz.prog 124 #[.bool false, .int .i64 d] w (fun e w' => e = .returned (.slice none 0 0) ∧ w = w') := by
  go_enter Tryz.func124, Tryz.ntmps124
  go_wp2
  go_ret
  exact ⟨rfl, rfl⟩
def kindT : Tm → Int
  | .mk k .. => k
theorem cnt_pos (x : V) : 1 ≤ cntV x := by cases x <;> simp [cntV]
set_option maxRecDepth 100000 in
set_option maxHeartbeats 4000000 in
theorem rput_leaf (ln : Bool) (T : Tm) (h8 : ∀ l, builtV T ≠ .list l) (h9 : ∀ l, builtV T ≠ .dict l) (h10 : ∀ c v l, builtV T ≠ .record c v l) (g8 : kindT T ≠ 8) (g9 : kindT T ≠ 9) (g10 : kindT T ≠ 10) : RPutC ln T := by
  intro x u L B w dp hx hBw hown hfit hlen
  obtain ⟨i0, hi0, hz0, hz1, hz2⟩ := info_parts Tryz.infoByte
  have HC := Lib.hid (fun (W : World) (h : RdT W W.heap.size T x) => rone_any T h8 h9 h10 x W ln dp h hfit)
  have hpl := put_len ln (builtV T) dp hfit
  have hpos : 1 ≤ cntV (builtV T) := cnt_pos _
  have hB0 : B ≤ w.heap.size := hBw
  have HX := Lib.hid hx
  obtain ⟨k, b, i, f, t, bs, r, l, d, c, v⟩ := T
  obtain ⟨Ab, cb, Al, cl, Ad, cd, rfl, hk, hi, ht, hbl, ⟨hbn, hbs⟩, hr0, hr1, hc, hv, ⟨hll, hl⟩, ⟨hdl, hd⟩⟩ := hx
  clear hbs hl hd hbn hbl hll hdl hr0 hr1
  have q8 : (k != 8) = true := by rw [bne_iff_ne]; exact g8
  have q9 : (k != 9) = true := by rw [bne_iff_ne]; exact g9
  have q10 : (k != 10) = true := by rw [bne_iff_ne]; exact g10
  clear h8 h9 h10 g8 g9 g10 hfit
  generalize putV ln (builtV (.mk k b i f t bs r l d c v)) dp = M at *
  generalize cntV (builtV (.mk k b i f t bs r l d c v)) = N at *
  obtain ⟨A0, c0, rfl⟩ := ownsRow_form hown
  have hrA := RK.alloc (RK.refl B w) hBw (.cells #[.int .i64 k, .bool b, .int .i64 i, .float .f64 f, .string t, .slice Ab bs.length cb, .int .u64 r, .slice Al l.length cl, .slice Ad d.length cd, .string c, .int .i64 v] 29)
  have HXA := Lib.hid (RdT.more (Nat.le_trans hBw (by simp)) _ _ (RdT.below HX.out hrA.1) : RdT (w.alloc (.cells #[.int .i64 k, .bool b, .int .i64 i, .float .f64 f, .string t, .slice Ab bs.length cb, .int .u64 r, .slice Al l.length cl, .slice Ad d.length cd, .string c, .int .i64 v] 29)) (w.alloc (.cells #[.int .i64 k, .bool b, .int .i64 i, .float .f64 f, .string t, .slice Ab bs.length cb, .int .u64 r, .slice Al l.length cl, .slice Ad d.length cd, .string c, .int .i64 v] 29)).heap.size (.mk k b i f t bs r l d c v) [.int .i64 k, .bool b, .int .i64 i, .float .f64 f, .string t, .slice Ab bs.length cb, .int .u64 r, .slice Al l.length cl, .slice Ad d.length cd, .string c, .int .i64 v])
  have hoA := OwnB.below hown ((Below.refl w.heap.size w).alloc (Nat.le_refl _) (.cells #[.int .i64 k, .bool b, .int .i64 i, .float .f64 f, .string t, .slice Ab bs.length cb, .int .u64 r, .slice Al l.length cl, .slice Ad d.length cd, .string c, .int .i64 v] 29))
  have HOA := Lib.hid hoA
  have HRA := Lib.hid hrA
  have hszA : w.heap.size + 1 ≤ (w.alloc (.cells #[.int .i64 k, .bool b, .int .i64 i, .float .f64 f, .string t, .slice Ab bs.length cb, .int .u64 r, .slice Al l.length cl, .slice Ad d.length cd, .string c, .int .i64 v] 29)).heap.size := by simp
  clear hoA hrA hown HX
  unfold termOf
  go_enter Tryz.func69, Tryz.ntmps69
  go_wp2_with fail
  refine (HC.out _ HXA.out).mono ?_
  rintro e w1 ⟨rfl, hb1⟩
  have ho0 := OwnB.below HOA.out hb1
  have hr0 := RK.call HRA.out (by omega) hb1
  have hs0 := Nat.le_trans hB0 hr0.1.size
  have st := tsize M
  clear HOA HRA HC HXA hb1
  go_wp2_with (at_builtin; refine Lib.wpList_append_own_string _ rfl (.tmp 26) (.tmp 28) 23 9 rfl B 5 i0 Tryz.underlying23 Tryz.underlying9 hi0 hz0 hz1 hz2 _ L.length _ rfl ho0 ⟨M.toArray⟩ rfl (by rw [st]; unfold maxLen; omega) (by rw [st]; omega) hs0 ?_; intro v1 w1 hn1 hg1 _; refine Hid.out ?_)
  have ho1 := OwnB.tapp hn1
  have hr1 := RK.app0 hr0 hs0 ho0 hg1
  have hs1 := Nat.le_trans hB0 hr1.1.size
  obtain ⟨L1, hL1⟩ : ∃ Q, Q = L ++ M := ⟨_, rfl⟩
  have hl1 : L1.length ≤ L.length + M.length := by rw [hL1, List.length_append]; exact Nat.le_refl _
  rw [← hL1] at ho1
  have HL1 := Lib.hid hL1
  obtain ⟨A1, c1, hv1⟩ := ownsRow_form ho1
  subst hv1
  clear hn1 hg1 hL1 ho0
  refine Lib.hid ?_
  go_wp2_with fail
  go_ret
  exact ⟨_, rfl, by rw [← HL1.out]; exact ho1, hr1⟩
end Go.Proofs.YtobpkelblpdajaaGreatDoor
