/- Walks: whether two rows of terms are the same (mk.Lists, mk.Entries). -/
import Derived.Test.YtobpkelblpdajaaGreatDoorPR30
import Derived.Test.YtobpkelblpdajaaGreatDoorPR08
import Derived.Laws.IdiomStrings
import Derived.Laws.BytesArg
set_option linter.unusedVariables false
set_option linter.unusedSimpArgs false
set_option linter.unusedSectionVars false
namespace Go.Proofs.YtobpkelblpdajaaGreatDoor
open Go Go.RowKit
theorem sameTL_len {l : List Tm} : ∀ {l' : List Tm}, l.length ≠ l'.length → sameTL l l' = false := by
  induction l with
  | nil => intro l' h; cases l' with
    | nil => exact absurd rfl h
    | cons y s => rfl
  | cons x r ih => intro l' h; cases l' with
    | nil => rfl
    | cons y s => simp at h; simp [sameTL, ih h]
theorem sameTD_len {l : List (ByteArray × Tm)} : ∀ {l' : List (ByteArray × Tm)}, l.length ≠ l'.length → sameTD l l' = false := by
  induction l with
  | nil => intro l' h; cases l' with
    | nil => exact absurd rfl h
    | cons y s => rfl
  | cons x r ih => obtain ⟨n, x⟩ := x; intro l' h; cases l' with
    | nil => rfl
    | cons y s => obtain ⟨m, y⟩ := y; simp at h; simp [sameTD, ih h]
theorem sameTL_drop {l l' : List Tm} {k : Nat} {x y : Tm} (hx : l[k]? = some x) (hy : l'[k]? = some y) : sameTL (l.drop k) (l'.drop k) = (sameT x y && sameTL (l.drop (k + 1)) (l'.drop (k + 1))) := by
  obtain ⟨h1, rfl⟩ := List.getElem?_eq_some_iff.1 hx
  obtain ⟨h2, rfl⟩ := List.getElem?_eq_some_iff.1 hy
  rw [List.drop_eq_getElem_cons h1, List.drop_eq_getElem_cons h2, sameTL]
theorem sameTD_drop {l l' : List (ByteArray × Tm)} {k : Nat} {x y : ByteArray × Tm} (hx : l[k]? = some x) (hy : l'[k]? = some y) : sameTD (l.drop k) (l'.drop k) = ((x.1.toList == y.1.toList) && sameT x.2 y.2 && sameTD (l.drop (k + 1)) (l'.drop (k + 1))) := by
  obtain ⟨h1, rfl⟩ := List.getElem?_eq_some_iff.1 hx
  obtain ⟨h2, rfl⟩ := List.getElem?_eq_some_iff.1 hy
  rw [List.drop_eq_getElem_cons h1, List.drop_eq_getElem_cons h2]
  rcases l[k] with ⟨a, b⟩
  rcases l'[k] with ⟨a', b'⟩
  rw [sameTD]
set_option maxRecDepth 100000 in
set_option maxHeartbeats 1000000 in
theorem lists_ne (l l' : List Tm) (A A' : Option Addr) (c c' : Nat) (w : World) (h1 : l.length ≤ 137438953472000) (h2 : l'.length ≤ 137438953472000) (hne : l.length ≠ l'.length) : Calls Tryz.prog 125 #[.slice A l.length c, .slice A' l'.length c'] w (BoolPost (sameTL l l') w) := by
  rw [sameTL_len hne]
  have hq : ((l.length : Int) != (l'.length : Int)) = true := by rw [bne_iff_ne]; omega
  go_enter Tryz.func125, Tryz.ntmps125
  go_wp2
  go_ret
  exact ⟨rfl, Below.refl _ _⟩
set_option maxRecDepth 100000 in
set_option maxHeartbeats 1000000 in
theorem ents_ne (l l' : List (ByteArray × Tm)) (A A' : Option Addr) (c c' : Nat) (w : World) (h1 : l.length ≤ 137438953472000) (h2 : l'.length ≤ 137438953472000) (hne : l.length ≠ l'.length) : Calls Tryz.prog 126 #[.slice A l.length c, .slice A' l'.length c'] w (BoolPost (sameTD l l') w) := by
  rw [sameTD_len hne]
  have hq : ((l.length : Int) != (l'.length : Int)) = true := by rw [bne_iff_ne]; omega
  go_enter Tryz.func126, Tryz.ntmps126
  go_wp2
  go_ret
  exact ⟨rfl, Below.refl _ _⟩
set_option maxRecDepth 100000 in
set_option maxHeartbeats 1000000 in
theorem lists_any (l l' : List Tm) (ih : ∀ x ∈ l, ∀ y, SameC x y) (A A' : Option Addr) (c c' : Nat) (w : World) (h1 : l.length ≤ 1374389534720) (h2 : l'.length ≤ 1374389534720) (hl : TermsAt w w.heap.size A l) (hl' : TermsAt w w.heap.size A' l') : Calls Tryz.prog 125 #[.slice A l.length c, .slice A' l'.length c'] w (BoolPost (sameTL l l') w) := by
  by_cases hne0 : l.length ≠ l'.length
  · exact lists_ne l l' A A' c c' w (by omega) (by omega) hne0
  have hne : l.length = l'.length := Decidable.not_not.1 hne0
  clear hne0
  have hq : ((l.length : Int) != (l'.length : Int)) = false := by rw [hne]; simp
  have HE := Lib.hid hne
  clear hne
  go_enter Tryz.func125, Tryz.ntmps125
  go_wp2
  go_loopw [5] (fun jx wr => ∃ k : Nat, jx = .int .i64 k ∧ k ≤ l.length ∧ Below w.heap.size w wr ∧ Hid (sameTL l l' = sameTL (l.drop k) (l'.drop k))) (fun jx _ => l.length - (intOf jx).toNat)
  case atStart => exact ⟨0, rfl, by omega, Below.refl _ _, Lib.hid rfl⟩
  case round =>
    obtain ⟨k, rfl, hk, hb, HT⟩ := hrel
    have hz := hb.size
    by_cases hlt : k < l.length
    · obtain ⟨bk, off, rfl, hbB, hr⟩ := hl.resolve_left (fun h => by rw [h] at hlt; simp at hlt)
      obtain ⟨bk', off', rfl, hbB', hr'⟩ := hl'.resolve_left (fun h => by rw [HE.out, h] at hlt; simp at hlt)
      obtain ⟨x, hx⟩ : ∃ x, l[k]? = some x := ⟨_, List.getElem?_eq_getElem hlt⟩
      obtain ⟨y, hy⟩ : ∃ y, l'[k]? = some y := ⟨_, List.getElem?_eq_getElem (HE.out ▸ hlt)⟩
      have HU := Lib.hid (HT.out.trans (sameTL_drop hx hy))
      obtain ⟨u, hu, hur⟩ := RdTL.iff.1 hr k x hx
      obtain ⟨v, hv, hvr⟩ := RdTL.iff.1 hr' k y hy
      have hu' := hu.keep (fun q hq => hb.cell (show q.block < _ by rw [hq]; exact hbB))
      have hv' := hv.keep (fun q hq => hb.cell (show q.block < _ by rw [hq]; exact hbB'))
      have HS := Lib.hid (fun (W : World) (hW : Below wr.heap.size wr W) => ih x (List.mem_of_getElem? hx) y u v W (RdT.more (Nat.le_trans hz hW.size) _ _ ((RdT.below hur hb).below (hW.mono hz))) (RdT.more (Nat.le_trans hz hW.size) _ _ ((RdT.below hvr hb).below (hW.mono hz))))
      have hbk : bk < wr.heap.size := by omega
      have hbk' : bk' < wr.heap.size := by omega
      have hlt' : k < l'.length := HE.out ▸ hlt
      obtain ⟨u0, u1, u2, u3, u4, u5, u6, u7, u8, u9, u10, rfl, -⟩ := hur.eleven
      obtain ⟨v0, v1, v2, v3, v4, v5, v6, v7, v8, v9, v10, rfl, -⟩ := hvr.eleven
      unfold termOf at HS
      have q0 := hu' 0 _ rfl
      have q1 := hu' 1 _ rfl
      have q2 := hu' 2 _ rfl
      have q3 := hu' 3 _ rfl
      have q4 := hu' 4 _ rfl
      have q5 := hu' 5 _ rfl
      have q6 := hu' 6 _ rfl
      have q7 := hu' 7 _ rfl
      have q8 := hu' 8 _ rfl
      have q9 := hu' 9 _ rfl
      have q10 := hu' 10 _ rfl
      simp only [Nat.add_zero] at q0
      have q0 := hv' 0 _ rfl
      have q1 := hv' 1 _ rfl
      have q2 := hv' 2 _ rfl
      have q3 := hv' 3 _ rfl
      have q4 := hv' 4 _ rfl
      have q5 := hv' 5 _ rfl
      have q6 := hv' 6 _ rfl
      have q7 := hv' 7 _ rfl
      have q8 := hv' 8 _ rfl
      have q9 := hv' 9 _ rfl
      have q10 := hv' 10 _ rfl
      simp only [Nat.add_zero] at q0
      clear hr hr' hl hl' hx hy hu hv hu' hv' hur hvr ih HT
      cases hs : sameT x y
      · rw [hs] at HU HS
        go_wp2_with fail
        refine wp_region_below_lit (by kernel_rfl) (by kernel_rfl) ?_
        repeat (refine WpC.step (fun K hK => ?_); go_simp; first | (refine hK _ ?_; clear hK K) | (apply Exists.intro; refine ⟨fun W hW => ?_, hK _ ?_⟩; (first | (intros; rfl) | (refine ⟨rfl, ?_⟩; rfl) | ((obtain ⟨hc9, hf9⟩ := bcellB hW; go_simp; rfl)) | ((go_at_call 70; refine (HS.out _ hW).mono ?_; rintro e w9 ⟨rfl, hb9⟩; exact ⟨rfl, below_then hW (Nat.le_refl _) hb9⟩))); clear hK K))
        refine WpC.nil ?_
        intro wq hwq
        go_wp2
        go_ret
        exact ⟨congrArg (fun x => Ending.returned (Value.bool x)) (by rw [HU.out]; rfl), hb.trans (hwq.mono hz)⟩
      · rw [hs] at HU HS
        go_wp2_with fail
        refine wp_region_below_lit (by kernel_rfl) (by kernel_rfl) ?_
        repeat (refine WpC.step (fun K hK => ?_); go_simp; first | (refine hK _ ?_; clear hK K) | (apply Exists.intro; refine ⟨fun W hW => ?_, hK _ ?_⟩; (first | (intros; rfl) | (refine ⟨rfl, ?_⟩; rfl) | ((obtain ⟨hc9, hf9⟩ := bcellB hW; go_simp; rfl)) | ((go_at_call 70; refine (HS.out _ hW).mono ?_; rintro e w9 ⟨rfl, hb9⟩; exact ⟨rfl, below_then hW (Nat.le_refl _) hb9⟩))); clear hK K))
        refine WpC.nil ?_
        intro wq hwq
        go_wp2
        refine ⟨⟨k + 1, rfl, hlt, hb.trans (hwq.mono hz), Lib.hid (by rw [HU.out]; rfl)⟩, ?_⟩
        simp [intOf]
        omega
    · obtain rfl : k = l.length := by omega
      go_wp2
      go_ret
      exact ⟨congrArg (fun x => Ending.returned (Value.bool x)) (by rw [HT.out, List.drop_length, HE.out, List.drop_length]; rfl), hb⟩
set_option maxRecDepth 100000 in
set_option maxHeartbeats 1000000 in
theorem ents_any (l l' : List (ByteArray × Tm)) (ih : ∀ x ∈ l, ∀ y, SameC x.2 y) (A A' : Option Addr) (c c' : Nat) (w : World) (h1 : l.length ≤ 1374389534720) (h2 : l'.length ≤ 1374389534720) (hl : EntsAt w w.heap.size A l) (hl' : EntsAt w w.heap.size A' l') : Calls Tryz.prog 126 #[.slice A l.length c, .slice A' l'.length c'] w (BoolPost (sameTD l l') w) := by
  by_cases hne0 : l.length ≠ l'.length
  · exact ents_ne l l' A A' c c' w (by omega) (by omega) hne0
  have hne : l.length = l'.length := Decidable.not_not.1 hne0
  clear hne0
  have hq : ((l.length : Int) != (l'.length : Int)) = false := by rw [hne]; simp
  have HE := Lib.hid hne
  clear hne
  go_enter Tryz.func126, Tryz.ntmps126
  go_wp2
  go_loopw [5] (fun jx wr => ∃ k : Nat, jx = .int .i64 k ∧ k ≤ l.length ∧ Below w.heap.size w wr ∧ Hid (sameTD l l' = sameTD (l.drop k) (l'.drop k))) (fun jx _ => l.length - (intOf jx).toNat)
  case atStart => exact ⟨0, rfl, by omega, Below.refl _ _, Lib.hid rfl⟩
  case round =>
    obtain ⟨k, rfl, hk, hb, HT⟩ := hrel
    have hz := hb.size
    by_cases hlt : k < l.length
    · obtain ⟨bk, off, rfl, hbB, hr⟩ := hl.resolve_left (fun h => by rw [h] at hlt; simp at hlt)
      obtain ⟨bk', off', rfl, hbB', hr'⟩ := hl'.resolve_left (fun h => by rw [HE.out, h] at hlt; simp at hlt)
      obtain ⟨x, hx⟩ : ∃ x, l[k]? = some x := ⟨_, List.getElem?_eq_getElem hlt⟩
      obtain ⟨y, hy⟩ : ∃ y, l'[k]? = some y := ⟨_, List.getElem?_eq_getElem (HE.out ▸ hlt)⟩
      have HU := Lib.hid (HT.out.trans (sameTD_drop hx hy))
      obtain ⟨n0, _, u, hu, hur⟩ := RdTD.iff.1 hr k x hx
      obtain ⟨m0, _, v, hv, hvr⟩ := RdTD.iff.1 hr' k y hy
      have n0' := (hb.cell (p := ⟨bk, off + k * 12, none⟩) hbB).trans n0
      have m0' := (hb.cell (p := ⟨bk', off' + k * 12, none⟩) hbB').trans m0
      have hu' := hu.keep (fun q hq => hb.cell (show q.block < _ by rw [hq]; exact hbB))
      have hv' := hv.keep (fun q hq => hb.cell (show q.block < _ by rw [hq]; exact hbB'))
      have HS := Lib.hid (fun (W : World) (hW : Below wr.heap.size wr W) => ih x (List.mem_of_getElem? hx) y.2 u v W (RdT.more (Nat.le_trans hz hW.size) _ _ ((RdT.below hur hb).below (hW.mono hz))) (RdT.more (Nat.le_trans hz hW.size) _ _ ((RdT.below hvr hb).below (hW.mono hz))))
      have hbk : bk < wr.heap.size := by omega
      have hbk' : bk' < wr.heap.size := by omega
      have hlt' : k < l'.length := HE.out ▸ hlt
      obtain ⟨u0, u1, u2, u3, u4, u5, u6, u7, u8, u9, u10, rfl, -⟩ := hur.eleven
      obtain ⟨v0, v1, v2, v3, v4, v5, v6, v7, v8, v9, v10, rfl, -⟩ := hvr.eleven
      unfold termOf at HS
      have q0 := hu' 0 _ rfl
      have q1 := hu' 1 _ rfl
      have q2 := hu' 2 _ rfl
      have q3 := hu' 3 _ rfl
      have q4 := hu' 4 _ rfl
      have q5 := hu' 5 _ rfl
      have q6 := hu' 6 _ rfl
      have q7 := hu' 7 _ rfl
      have q8 := hu' 8 _ rfl
      have q9 := hu' 9 _ rfl
      have q10 := hu' 10 _ rfl
      simp only [Nat.add_zero] at q0
      have q0 := hv' 0 _ rfl
      have q1 := hv' 1 _ rfl
      have q2 := hv' 2 _ rfl
      have q3 := hv' 3 _ rfl
      have q4 := hv' 4 _ rfl
      have q5 := hv' 5 _ rfl
      have q6 := hv' 6 _ rfl
      have q7 := hv' 7 _ rfl
      have q8 := hv' 8 _ rfl
      have q9 := hv' 9 _ rfl
      have q10 := hv' 10 _ rfl
      simp only [Nat.add_zero] at q0
      clear hr hr' hl hl' hx hy hu hv hu' hv' hur hvr ih HT n0 m0
      cases hn : (x.1.toList == y.1.toList)
      · rw [hn] at HU
        have hn2 : (x.1.toList != y.1.toList) = true := by rw [bne, hn]; rfl
        go_wp2_with fail
        refine wp_region_below_lit (by kernel_rfl) (by kernel_rfl) ?_
        repeat (refine WpC.step (fun K hK => ?_); go_simp; first | (refine hK _ ?_; clear hK K) | (apply Exists.intro; refine ⟨fun W hW => ?_, hK _ ?_⟩; (first | (intros; rfl) | (refine ⟨rfl, ?_⟩; rfl) | ((obtain ⟨hc9, hf9⟩ := bcellB hW; go_simp; rfl)) | ((go_at_call 70; refine (HS.out _ hW).mono ?_; rintro e w9 ⟨rfl, hb9⟩; exact ⟨rfl, below_then hW (Nat.le_refl _) hb9⟩))); clear hK K))
        refine WpC.nil ?_
        intro wq hwq
        go_wp2
        go_ret
        exact ⟨congrArg (fun x => Ending.returned (Value.bool x)) (by rw [HU.out]; rfl), hb.trans (hwq.mono hz)⟩
      · have hn2 : (x.1.toList != y.1.toList) = false := by rw [bne, hn]; rfl
        cases hs : sameT x.2 y.2
        · rw [hn, hs] at HU
          rw [hs] at HS
          go_wp2_with fail
          refine wp_region_below_lit (by kernel_rfl) (by kernel_rfl) ?_
          repeat (refine WpC.step (fun K hK => ?_); go_simp; first | (refine hK _ ?_; clear hK K) | (apply Exists.intro; refine ⟨fun W hW => ?_, hK _ ?_⟩; (first | (intros; rfl) | (refine ⟨rfl, ?_⟩; rfl) | ((obtain ⟨hc9, hf9⟩ := bcellB hW; go_simp; rfl)) | ((go_at_call 70; refine (HS.out _ hW).mono ?_; rintro e w9 ⟨rfl, hb9⟩; exact ⟨rfl, below_then hW (Nat.le_refl _) hb9⟩))); clear hK K))
          refine WpC.nil ?_
          intro wq hwq
          go_wp2
          go_ret
          exact ⟨congrArg (fun x => Ending.returned (Value.bool x)) (by rw [HU.out]; rfl), hb.trans (hwq.mono hz)⟩
        · rw [hn, hs] at HU
          rw [hs] at HS
          go_wp2_with fail
          refine wp_region_below_lit (by kernel_rfl) (by kernel_rfl) ?_
          repeat (refine WpC.step (fun K hK => ?_); go_simp; first | (refine hK _ ?_; clear hK K) | (apply Exists.intro; refine ⟨fun W hW => ?_, hK _ ?_⟩; (first | (intros; rfl) | (refine ⟨rfl, ?_⟩; rfl) | ((obtain ⟨hc9, hf9⟩ := bcellB hW; go_simp; rfl)) | ((go_at_call 70; refine (HS.out _ hW).mono ?_; rintro e w9 ⟨rfl, hb9⟩; exact ⟨rfl, below_then hW (Nat.le_refl _) hb9⟩))); clear hK K))
          refine WpC.nil ?_
          intro wq hwq
          go_wp2
          refine ⟨⟨k + 1, rfl, hlt, hb.trans (hwq.mono hz), Lib.hid (by rw [HU.out]; rfl)⟩, ?_⟩
          simp [intOf]
          omega
    · obtain rfl : k = l.length := by omega
      go_wp2
      go_ret
      exact ⟨congrArg (fun x => Ending.returned (Value.bool x)) (by rw [HT.out, List.drop_length, HE.out, List.drop_length]; rfl), hb⟩
end Go.Proofs.YtobpkelblpdajaaGreatDoor
/- Walks: mk.Same of any two terms. -/
namespace Go.Proofs.YtobpkelblpdajaaGreatDoor
open Go Go.RowKit
theorem conv_row {W : World} {S : Nat → Prop} {A : Option Addr} {l : List UInt8} {c : Nat} (h : ByteRow W S A l) : (convert 23 9 (.slice A l.length c)).run Tryz.prog W = .ok (.string ⟨l.toArray⟩) W := by
  cases A with
  | none =>
    have : l = [] := by
      rcases h with h | ⟨b, off, h, _⟩
      · exact h
      · cases h
    subst this
    exact run_convert_bytes_nil W 23 5 Tryz.underlying23 Tryz.underlying5 _ c 9 Tryz.underlying9
  | some a =>
    refine run_convert_bytes_back W 23 9 5 a c l Tryz.underlying23 Tryz.underlying5 Tryz.underlying9 (fun j hj => ?_)
    rcases h with h | ⟨b, off, h, _, h2⟩
    · rw [h] at hj; simp at hj
    · injection h with h
      subst h
      rw [Addr.add_lit]
      exact h2 j _ (List.getElem?_eq_getElem hj)
section
variable (b : Bool) (i : Int) (f : Nat) (t : ByteArray) (bs : List UInt8) (r : Int) (l : List Tm) (d : List (ByteArray × Tm)) (c : ByteArray) (v : Int) (b' : Bool) (i' : Int) (f' : Nat) (t' : ByteArray) (bs' : List UInt8) (r' : Int) (l' : List Tm) (d' : List (ByteArray × Tm)) (c' : ByteArray) (v' : Int)
set_option maxRecDepth 100000 in
set_option maxHeartbeats 1000000 in
theorem same_6 : SameC (.mk 6 b i f t bs r l d c v) (.mk 6 b' i' f' t' bs' r' l' d' c' v') := by
  rintro x y w ⟨Ab, cb, Al, cl, Ad, cd, rfl, hk, hi, ht, hbl, ⟨hbn, hbs⟩, hr0, hr1, hc, hv, ⟨hll, hl⟩, ⟨hdl, hd⟩⟩ ⟨Ab', cb', Al', cl', Ad', cd', rfl, hk', hi', ht', hbl', ⟨hbn', hbs'⟩, hr0', hr1', hc', hv', ⟨hll', hl'⟩, ⟨hdl', hd'⟩⟩
  have hF : sameT (.mk 6 b i f t bs r l d c v) (.mk 6 b' i' f' t' bs' r' l' d' c' v') = (bs == bs') := by
    rw [sameT]; simp; rw [Bool.eq_iff_iff]; simp
  rw [hF]
  have HA : Below w.heap.size w ((w.alloc (.cells #[.int .i64 6, .bool b, .int .i64 i, .float .f64 f, .string t, .slice Ab bs.length cb, .int .u64 r, .slice Al l.length cl, .slice Ad d.length cd, .string c, .int .i64 v] 29)).alloc (.cells #[.int .i64 6, .bool b', .int .i64 i', .float .f64 f', .string t', .slice Ab' bs'.length cb', .int .u64 r', .slice Al' l'.length cl', .slice Ad' d'.length cd', .string c', .int .i64 v'] 29)) := ((Below.refl w.heap.size w).alloc (Nat.le_refl _) _).alloc (by simp) _
  have k1 := conv_row (c := cb) (hbs.keep (fun p hp => HA.cell hp))
  have k2 := conv_row (c := cb') (hbs'.keep (fun p hp => HA.cell hp))
  clear hbs hl hd hbs' hl' hd' hF HA
  unfold termOf
  go_enter Tryz.func70, Tryz.ntmps70
  go_wp2
  go_ret
  exact ⟨rfl, ((Below.refl w.heap.size w).alloc (Nat.le_refl _) _).alloc (by simp) _⟩
set_option maxRecDepth 100000 in
set_option maxHeartbeats 1000000 in
theorem same_no (k : Int) (n1 : k ≠ 1) (n2 : k ≠ 2) (n3 : k ≠ 3) (n4 : k ≠ 4) (n5 : k ≠ 5) (n6 : k ≠ 6) (n7 : k ≠ 7) (n8 : k ≠ 8) (n9 : k ≠ 9) (n10 : k ≠ 10) (n11 : k ≠ 11) : SameC (.mk k b i f t bs r l d c v) (.mk k b' i' f' t' bs' r' l' d' c' v') := by
  rintro x y w ⟨Ab, cb, Al, cl, Ad, cd, rfl, hk, hi, ht, hbl, ⟨hbn, hbs⟩, hr0, hr1, hc, hv, ⟨hll, hl⟩, ⟨hdl, hd⟩⟩ ⟨Ab', cb', Al', cl', Ad', cd', rfl, hk', hi', ht', hbl', ⟨hbn', hbs'⟩, hr0', hr1', hc', hv', ⟨hll', hl'⟩, ⟨hdl', hd'⟩⟩
  have hF : sameT (.mk k b i f t bs r l d c v) (.mk k b' i' f' t' bs' r' l' d' c' v') = false := by
    rw [sameT]; simp [n1, n2, n3, n4, n5, n6, n7, n8, n9, n10, n11]
  rw [hF]
  clear hbs hl hd hbs' hl' hd' hF
  unfold termOf
  have m1 : (k == 1) = false := by simpa using n1
  have m2 : (k == 2) = false := by simpa using n2
  have m3 : (k == 3) = false := by simpa using n3
  have m4 : (k == 4) = false := by simpa using n4
  have m5 : (k == 5) = false := by simpa using n5
  have m6 : (k == 6) = false := by simpa using n6
  have m7 : (k == 7) = false := by simpa using n7
  have m8 : (k == 8) = false := by simpa using n8
  have m9 : (k == 9) = false := by simpa using n9
  have m10 : (k == 10) = false := by simpa using n10
  have m11 : (k == 11) = false := by simpa using n11
  have m0 : (k != k) = false := by simp
  go_enter Tryz.func70, Tryz.ntmps70
  go_wp2
  go_ret
  exact ⟨rfl, ((Below.refl w.heap.size w).alloc (Nat.le_refl _) _).alloc (by simp) _⟩
set_option maxRecDepth 100000 in
set_option maxHeartbeats 1000000 in
theorem same_8 (ih : ∀ x ∈ l, ∀ y, SameC x y) : SameC (.mk 8 b i f t bs r l d c v) (.mk 8 b' i' f' t' bs' r' l' d' c' v') := by
  rintro x y w ⟨Ab, cb, Al, cl, Ad, cd, rfl, hk, hi, ht, hbl, ⟨hbn, hbs⟩, hr0, hr1, hc, hv, ⟨hll, hl⟩, ⟨hdl, hd⟩⟩ ⟨Ab', cb', Al', cl', Ad', cd', rfl, hk', hi', ht', hbl', ⟨hbn', hbs'⟩, hr0', hr1', hc', hv', ⟨hll', hl'⟩, ⟨hdl', hd'⟩⟩
  have hF : sameT (.mk 8 b i f t bs r l d c v) (.mk 8 b' i' f' t' bs' r' l' d' c' v') = sameTL l l' := by
    rw [sameT]; simp
  rw [hF]
  have HA : Hid (Below w.heap.size w ((w.alloc (.cells #[.int .i64 8, .bool b, .int .i64 i, .float .f64 f, .string t, .slice Ab bs.length cb, .int .u64 r, .slice Al l.length cl, .slice Ad d.length cd, .string c, .int .i64 v] 29)).alloc (.cells #[.int .i64 8, .bool b', .int .i64 i', .float .f64 f', .string t', .slice Ab' bs'.length cb', .int .u64 r', .slice Al' l'.length cl', .slice Ad' d'.length cd', .string c', .int .i64 v'] 29))) := Lib.hid (((Below.refl w.heap.size w).alloc (Nat.le_refl _) _).alloc (by simp) _)
  have hz : w.heap.size ≤ ((w.alloc (.cells #[.int .i64 8, .bool b, .int .i64 i, .float .f64 f, .string t, .slice Ab bs.length cb, .int .u64 r, .slice Al l.length cl, .slice Ad d.length cd, .string c, .int .i64 v] 29)).alloc (.cells #[.int .i64 8, .bool b', .int .i64 i', .float .f64 f', .string t', .slice Ab' bs'.length cb', .int .u64 r', .slice Al' l'.length cl', .slice Ad' d'.length cd', .string c', .int .i64 v'] 29)).heap.size := HA.out.size
  have HL := Lib.hid (lists_any l l' ih Al Al' cl cl' ((w.alloc (.cells #[.int .i64 8, .bool b, .int .i64 i, .float .f64 f, .string t, .slice Ab bs.length cb, .int .u64 r, .slice Al l.length cl, .slice Ad d.length cd, .string c, .int .i64 v] 29)).alloc (.cells #[.int .i64 8, .bool b', .int .i64 i', .float .f64 f', .string t', .slice Ab' bs'.length cb', .int .u64 r', .slice Al' l'.length cl', .slice Ad' d'.length cd', .string c', .int .i64 v'] 29)) (by omega) (by omega) ((TermsAt.below (show TermsAt w w.heap.size Al l from hl) HA.out).more hz) ((TermsAt.below (show TermsAt w w.heap.size Al' l' from hl') HA.out).more hz))
  clear hbs hl hd hbs' hl' hd' hF ih hz
  generalize sameTL l l' = q at *
  unfold termOf
  go_enter Tryz.func70, Tryz.ntmps70
  go_wp2_with fail
  refine HL.out.mono ?_
  rintro e w1 ⟨rfl, hb1⟩
  go_wp2
  go_ret
  exact ⟨rfl, HA.out.trans (hb1.mono HA.out.size)⟩
set_option maxRecDepth 100000 in
set_option maxHeartbeats 1000000 in
theorem same_9 (ih : ∀ x ∈ d, ∀ y, SameC x.2 y) : SameC (.mk 9 b i f t bs r l d c v) (.mk 9 b' i' f' t' bs' r' l' d' c' v') := by
  rintro x y w ⟨Ab, cb, Al, cl, Ad, cd, rfl, hk, hi, ht, hbl, ⟨hbn, hbs⟩, hr0, hr1, hc, hv, ⟨hll, hl⟩, ⟨hdl, hd⟩⟩ ⟨Ab', cb', Al', cl', Ad', cd', rfl, hk', hi', ht', hbl', ⟨hbn', hbs'⟩, hr0', hr1', hc', hv', ⟨hll', hl'⟩, ⟨hdl', hd'⟩⟩
  have hF : sameT (.mk 9 b i f t bs r l d c v) (.mk 9 b' i' f' t' bs' r' l' d' c' v') = sameTD d d' := by
    rw [sameT]; simp
  rw [hF]
  have HA : Hid (Below w.heap.size w ((w.alloc (.cells #[.int .i64 9, .bool b, .int .i64 i, .float .f64 f, .string t, .slice Ab bs.length cb, .int .u64 r, .slice Al l.length cl, .slice Ad d.length cd, .string c, .int .i64 v] 29)).alloc (.cells #[.int .i64 9, .bool b', .int .i64 i', .float .f64 f', .string t', .slice Ab' bs'.length cb', .int .u64 r', .slice Al' l'.length cl', .slice Ad' d'.length cd', .string c', .int .i64 v'] 29))) := Lib.hid (((Below.refl w.heap.size w).alloc (Nat.le_refl _) _).alloc (by simp) _)
  have hz : w.heap.size ≤ ((w.alloc (.cells #[.int .i64 9, .bool b, .int .i64 i, .float .f64 f, .string t, .slice Ab bs.length cb, .int .u64 r, .slice Al l.length cl, .slice Ad d.length cd, .string c, .int .i64 v] 29)).alloc (.cells #[.int .i64 9, .bool b', .int .i64 i', .float .f64 f', .string t', .slice Ab' bs'.length cb', .int .u64 r', .slice Al' l'.length cl', .slice Ad' d'.length cd', .string c', .int .i64 v'] 29)).heap.size := HA.out.size
  have HL := Lib.hid (ents_any d d' ih Ad Ad' cd cd' ((w.alloc (.cells #[.int .i64 9, .bool b, .int .i64 i, .float .f64 f, .string t, .slice Ab bs.length cb, .int .u64 r, .slice Al l.length cl, .slice Ad d.length cd, .string c, .int .i64 v] 29)).alloc (.cells #[.int .i64 9, .bool b', .int .i64 i', .float .f64 f', .string t', .slice Ab' bs'.length cb', .int .u64 r', .slice Al' l'.length cl', .slice Ad' d'.length cd', .string c', .int .i64 v'] 29)) (by omega) (by omega) ((EntsAt.below (show EntsAt w w.heap.size Ad d from hd) HA.out).more hz) ((EntsAt.below (show EntsAt w w.heap.size Ad' d' from hd') HA.out).more hz))
  clear hbs hl hd hbs' hl' hd' hF ih hz
  generalize sameTD d d' = q at *
  unfold termOf
  go_enter Tryz.func70, Tryz.ntmps70
  go_wp2_with fail
  refine HL.out.mono ?_
  rintro e w1 ⟨rfl, hb1⟩
  go_wp2
  go_ret
  exact ⟨rfl, HA.out.trans (hb1.mono HA.out.size)⟩
set_option maxRecDepth 100000 in
set_option maxHeartbeats 1000000 in
theorem same_10a (h : (c.toList == c'.toList) = false) : SameC (.mk 10 b i f t bs r l d c v) (.mk 10 b' i' f' t' bs' r' l' d' c' v') := by
  rintro x y w ⟨Ab, cb, Al, cl, Ad, cd, rfl, hk, hi, ht, hbl, ⟨hbn, hbs⟩, hr0, hr1, hc, hv, ⟨hll, hl⟩, ⟨hdl, hd⟩⟩ ⟨Ab', cb', Al', cl', Ad', cd', rfl, hk', hi', ht', hbl', ⟨hbn', hbs'⟩, hr0', hr1', hc', hv', ⟨hll', hl'⟩, ⟨hdl', hd'⟩⟩
  have hF : sameT (.mk 10 b i f t bs r l d c v) (.mk 10 b' i' f' t' bs' r' l' d' c' v') = false := by
    rw [sameT]; simp [h]
  rw [hF]
  have HA : Hid (Below w.heap.size w ((w.alloc (.cells #[.int .i64 10, .bool b, .int .i64 i, .float .f64 f, .string t, .slice Ab bs.length cb, .int .u64 r, .slice Al l.length cl, .slice Ad d.length cd, .string c, .int .i64 v] 29)).alloc (.cells #[.int .i64 10, .bool b', .int .i64 i', .float .f64 f', .string t', .slice Ab' bs'.length cb', .int .u64 r', .slice Al' l'.length cl', .slice Ad' d'.length cd', .string c', .int .i64 v'] 29))) := Lib.hid (((Below.refl w.heap.size w).alloc (Nat.le_refl _) _).alloc (by simp) _)
  clear hbs hl hd hbs' hl' hd' hF
  unfold termOf
  go_enter Tryz.func70, Tryz.ntmps70
  go_wp2
  go_ret
  exact ⟨rfl, HA.out⟩
set_option maxRecDepth 100000 in
set_option maxHeartbeats 1000000 in
theorem same_10b (h : (c.toList == c'.toList) = true) (h2 : v ≠ v') : SameC (.mk 10 b i f t bs r l d c v) (.mk 10 b' i' f' t' bs' r' l' d' c' v') := by
  rintro x y w ⟨Ab, cb, Al, cl, Ad, cd, rfl, hk, hi, ht, hbl, ⟨hbn, hbs⟩, hr0, hr1, hc, hv, ⟨hll, hl⟩, ⟨hdl, hd⟩⟩ ⟨Ab', cb', Al', cl', Ad', cd', rfl, hk', hi', ht', hbl', ⟨hbn', hbs'⟩, hr0', hr1', hc', hv', ⟨hll', hl'⟩, ⟨hdl', hd'⟩⟩
  have hF : sameT (.mk 10 b i f t bs r l d c v) (.mk 10 b' i' f' t' bs' r' l' d' c' v') = false := by
    rw [sameT]; simp [h, h2]
  rw [hF]
  have HA : Hid (Below w.heap.size w ((w.alloc (.cells #[.int .i64 10, .bool b, .int .i64 i, .float .f64 f, .string t, .slice Ab bs.length cb, .int .u64 r, .slice Al l.length cl, .slice Ad d.length cd, .string c, .int .i64 v] 29)).alloc (.cells #[.int .i64 10, .bool b', .int .i64 i', .float .f64 f', .string t', .slice Ab' bs'.length cb', .int .u64 r', .slice Al' l'.length cl', .slice Ad' d'.length cd', .string c', .int .i64 v'] 29))) := Lib.hid (((Below.refl w.heap.size w).alloc (Nat.le_refl _) _).alloc (by simp) _)
  have h3 : (v == v') = false := by simpa using h2
  clear hbs hl hd hbs' hl' hd' hF
  unfold termOf
  go_enter Tryz.func70, Tryz.ntmps70
  go_wp2
  go_ret
  exact ⟨rfl, HA.out⟩
set_option maxRecDepth 100000 in
set_option maxHeartbeats 1000000 in
theorem same_10c (h : (c.toList == c'.toList) = true) (h2 : v = v') (ih : ∀ x ∈ d, ∀ y, SameC x.2 y) : SameC (.mk 10 b i f t bs r l d c v) (.mk 10 b' i' f' t' bs' r' l' d' c' v') := by
  rintro x y w ⟨Ab, cb, Al, cl, Ad, cd, rfl, hk, hi, ht, hbl, ⟨hbn, hbs⟩, hr0, hr1, hc, hv, ⟨hll, hl⟩, ⟨hdl, hd⟩⟩ ⟨Ab', cb', Al', cl', Ad', cd', rfl, hk', hi', ht', hbl', ⟨hbn', hbs'⟩, hr0', hr1', hc', hv', ⟨hll', hl'⟩, ⟨hdl', hd'⟩⟩
  have hF : sameT (.mk 10 b i f t bs r l d c v) (.mk 10 b' i' f' t' bs' r' l' d' c' v') = sameTD d d' := by
    rw [sameT]; simp [h, h2]
  rw [hF]
  have HA : Hid (Below w.heap.size w ((w.alloc (.cells #[.int .i64 10, .bool b, .int .i64 i, .float .f64 f, .string t, .slice Ab bs.length cb, .int .u64 r, .slice Al l.length cl, .slice Ad d.length cd, .string c, .int .i64 v] 29)).alloc (.cells #[.int .i64 10, .bool b', .int .i64 i', .float .f64 f', .string t', .slice Ab' bs'.length cb', .int .u64 r', .slice Al' l'.length cl', .slice Ad' d'.length cd', .string c', .int .i64 v'] 29))) := Lib.hid (((Below.refl w.heap.size w).alloc (Nat.le_refl _) _).alloc (by simp) _)
  have hz : w.heap.size ≤ ((w.alloc (.cells #[.int .i64 10, .bool b, .int .i64 i, .float .f64 f, .string t, .slice Ab bs.length cb, .int .u64 r, .slice Al l.length cl, .slice Ad d.length cd, .string c, .int .i64 v] 29)).alloc (.cells #[.int .i64 10, .bool b', .int .i64 i', .float .f64 f', .string t', .slice Ab' bs'.length cb', .int .u64 r', .slice Al' l'.length cl', .slice Ad' d'.length cd', .string c', .int .i64 v'] 29)).heap.size := HA.out.size
  have HL := Lib.hid (ents_any d d' ih Ad Ad' cd cd' ((w.alloc (.cells #[.int .i64 10, .bool b, .int .i64 i, .float .f64 f, .string t, .slice Ab bs.length cb, .int .u64 r, .slice Al l.length cl, .slice Ad d.length cd, .string c, .int .i64 v] 29)).alloc (.cells #[.int .i64 10, .bool b', .int .i64 i', .float .f64 f', .string t', .slice Ab' bs'.length cb', .int .u64 r', .slice Al' l'.length cl', .slice Ad' d'.length cd', .string c', .int .i64 v'] 29)) (by omega) (by omega) ((EntsAt.below (show EntsAt w w.heap.size Ad d from hd) HA.out).more hz) ((EntsAt.below (show EntsAt w w.heap.size Ad' d' from hd') HA.out).more hz))
  have h3 : (v == v') = true := by simpa using h2
  clear h2 ih hz
  clear hbs hl hd hbs' hl' hd' hF
  generalize sameTD d d' = q at *
  unfold termOf
  go_enter Tryz.func70, Tryz.ntmps70
  go_wp2_with fail
  refine HL.out.mono ?_
  rintro e w1 ⟨rfl, hb1⟩
  go_wp2
  go_ret
  exact ⟨rfl, HA.out.trans (hb1.mono HA.out.size)⟩
end
/- mk.Same answers whether two terms are the same value. -/
theorem sameT_any (a : Tm) : ∀ b, SameC a b := by
  induction a using Tm.ind with
  | h k b i f t bs r l d c v ihl ihd =>
    rintro ⟨k', b', i', f', t', bs', r', l', d', c', v'⟩
    by_cases hk : k = k'
    · subst hk
      by_cases n1 : k = 1; · subst n1; exact same_1 _ _ _ _ _ _ _ _ _ _ _ _ _ _ _ _ _ _ _ _
      by_cases n2 : k = 2; · subst n2; exact same_2 _ _ _ _ _ _ _ _ _ _ _ _ _ _ _ _ _ _ _ _
      by_cases n3 : k = 3; · subst n3; exact same_3 _ _ _ _ _ _ _ _ _ _ _ _ _ _ _ _ _ _ _ _
      by_cases n4 : k = 4; · subst n4; exact same_4 _ _ _ _ _ _ _ _ _ _ _ _ _ _ _ _ _ _ _ _
      by_cases n5 : k = 5; · subst n5; exact same_5 _ _ _ _ _ _ _ _ _ _ _ _ _ _ _ _ _ _ _ _
      by_cases n6 : k = 6; · subst n6; exact same_6 _ _ _ _ _ _ _ _ _ _ _ _ _ _ _ _ _ _ _ _
      by_cases n7 : k = 7; · subst n7; exact same_7 _ _ _ _ _ _ _ _ _ _ _ _ _ _ _ _ _ _ _ _
      by_cases n8 : k = 8; · subst n8; exact same_8 _ _ _ _ _ _ _ _ _ _ _ _ _ _ _ _ _ _ _ _ (ihl)
      by_cases n9 : k = 9; · subst n9; exact same_9 _ _ _ _ _ _ _ _ _ _ _ _ _ _ _ _ _ _ _ _ (ihd)
      by_cases n10 : k = 10
      · subst n10
        cases hc : (c.toList == c'.toList)
        · exact same_10a _ _ _ _ _ _ _ _ _ _ _ _ _ _ _ _ _ _ _ _ hc
        · by_cases hv : v = v'
          · exact same_10c _ _ _ _ _ _ _ _ _ _ _ _ _ _ _ _ _ _ _ _ hc hv (ihd)
          · exact same_10b _ _ _ _ _ _ _ _ _ _ _ _ _ _ _ _ _ _ _ _ hc hv
      by_cases n11 : k = 11; · subst n11; exact same_11 _ _ _ _ _ _ _ _ _ _ _ _ _ _ _ _ _ _ _ _
      exact same_no _ _ _ _ _ _ _ _ _ _ _ _ _ _ _ _ _ _ _ _ k n1 n2 n3 n4 n5 n6 n7 n8 n9 n10 n11
    · exact same_ne _ _ _ _ _ _ _ _ _ _ _ _ _ _ _ _ _ _ _ _ k k' hk
end Go.Proofs.YtobpkelblpdajaaGreatDoor
