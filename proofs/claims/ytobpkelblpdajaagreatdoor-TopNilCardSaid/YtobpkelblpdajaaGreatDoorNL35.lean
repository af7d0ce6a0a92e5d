/- Walks: the terms that a term holds (the document's Parts). -/
import Derived.Test.YtobpkelblpdajaaGreatDoorNL33
import Derived.Test.YtobpkelblpdajaaGreatDoorNL34
import Derived.Laws.AppendOwnNone
set_option linter.unusedVariables false
set_option linter.unusedSimpArgs false
set_option linter.unusedSectionVars false
namespace Go.Proofs.YtobpkelblpdajaaGreatDoor
open Go Go.RowKit
theorem Tryz.infoTerm : (Tryz.prog.info? 29).map (fun i => (i.zero, i.size, i.bytes)) = some (some (.agg #[.int .i64 0, .bool false, .int .i64 0, .float .f64 0, .string ⟨#[]⟩, .slice none 0 0, .int .u64 0, .slice none 0 0, .slice none 0 0, .string ⟨#[]⟩, .int .i64 0]), 11, 152) := by kernel_rfl
def partsT : Tm → List Tm
  | .mk k _ _ _ _ _ _ l d _ _ => if k = 8 then l else if k = 9 ∨ k = 10 then d.map (·.2) else []
def TermsPost (S : Nat → Prop) (l : List Tm) (w : World) (e : Ending) (w' : World) : Prop := ∃ A c, e = .returned (.slice A l.length c) ∧ RowsAt bearsT w' (fun b => S b ∨ New w w' b) A l ∧ Below w.heap.size w w'
section
variable (b : Bool) (i : Int) (f : Nat) (t : ByteArray) (bs : List UInt8) (r : Int) (l : List Tm) (d : List (ByteArray × Tm)) (c : ByteArray) (v : Int) (x : List Value) (w : World) (S : Nat → Prop) (hS : ∀ b, S b → b < w.heap.size)
include hS
set_option maxRecDepth 100000 in
set_option maxHeartbeats 2000000 in
theorem rparts_8 (hx : RdTS w S (.mk 8 b i f t bs r l d c v) x) : Calls Tryz.prog 84 #[termOf x] w (TermsPost S (partsT (.mk 8 b i f t bs r l d c v)) w) := by
  obtain ⟨Ab, cb, Al, cl, Ad, cd, rfl, hk, hi, ht, hbl, ⟨hbn, hbs⟩, hr0, hr1, hc, hv, ⟨hll, hl⟩, ⟨hdl, hd⟩⟩ := hx
  have HP : Hid (partsT (.mk 8 b i f t bs r l d c v) = l) := Lib.hid (by simp [partsT])
  have HL : Hid (∀ W, Below w.heap.size w W → RowsAt bearsT W (fun b => S b ∨ New w W b) Al l) := Lib.hid fun W hW => RowsAt.more (RowsAt.keep (rowsT_iff.2 hl) (fun p hp => hW.cell (hS _ hp))) (fun b hb => .inl hb)
  clear hbs hl hd
  unfold termOf
  go_enter Tryz.func84, Tryz.ntmps84
  go_wp2
  go_ret
  rw [HP.out]
  have hb := (Below.refl w.heap.size w).alloc (Nat.le_refl _) (.cells #[.int .i64 8, .bool b, .int .i64 i, .float .f64 f, .string t, .slice Ab bs.length cb, .int .u64 r, .slice Al l.length cl, .slice Ad d.length cd, .string c, .int .i64 v] 29)
  exact ⟨Al, cl, rfl, HL.out _ hb, hb⟩
set_option maxRecDepth 100000 in
set_option maxHeartbeats 2000000 in
theorem rparts_0 (k : Int) (h8 : k ≠ 8) (h9 : k ≠ 9) (h10 : k ≠ 10) (hx : RdTS w S (.mk k b i f t bs r l d c v) x) : Calls Tryz.prog 84 #[termOf x] w (TermsPost S (partsT (.mk k b i f t bs r l d c v)) w) := by
  obtain ⟨Ab, cb, Al, cl, Ad, cd, rfl, hk, hi, ht, hbl, ⟨hbn, hbs⟩, hr0, hr1, hc, hv, ⟨hll, hl⟩, ⟨hdl, hd⟩⟩ := hx
  have HP : Hid (partsT (.mk k b i f t bs r l d c v) = []) := Lib.hid (by show (if k = 8 then l else if k = 9 ∨ k = 10 then d.map (·.2) else []) = []; rw [if_neg h8, if_neg (by omega)])
  have q8 : (k == 8) = false := by rw [beq_eq_false_iff_ne]; exact h8
  have q9 : (k == 9) = false := by rw [beq_eq_false_iff_ne]; exact h9
  have q10 : (k == 10) = false := by rw [beq_eq_false_iff_ne]; exact h10
  clear hbs hl hd
  unfold termOf
  go_enter Tryz.func84, Tryz.ntmps84
  go_wp2
  go_ret
  rw [HP.out]
  exact ⟨_, 0, rfl, .inl rfl, ((Below.refl _ _).alloc (Nat.le_refl _) _).alloc (by simp) _⟩
set_option maxRecDepth 100000 in
set_option maxHeartbeats 2000000 in
theorem rparts_9 (hx : RdTS w S (.mk 9 b i f t bs r l d c v) x) : Calls Tryz.prog 84 #[termOf x] w (TermsPost S (partsT (.mk 9 b i f t bs r l d c v)) w) := by
  obtain ⟨Ab, cb, Al, cl, Ad, cd, rfl, hk, hi, ht, hbl, ⟨hbn, hbs⟩, hr0, hr1, hc, hv, ⟨hll, hl⟩, ⟨hdl, hd⟩⟩ := hx
  obtain ⟨i0, hi0, hz0, hz1, hz2⟩ := info_parts Tryz.infoTerm
  have HP : Hid (partsT (.mk 9 b i f t bs r l d c v) = d.map (·.2)) := Lib.hid (by simp [partsT])
  have HA : Hid (Below w.heap.size w (w.alloc (.cells #[.int .i64 9, .bool b, .int .i64 i, .float .f64 f, .string t, .slice Ab bs.length cb, .int .u64 r, .slice Al l.length cl, .slice Ad d.length cd, .string c, .int .i64 v] 29))) := Lib.hid ((Below.refl _ _).alloc (Nat.le_refl _) _)
  have hsz : (w.alloc (.cells #[.int .i64 9, .bool b, .int .i64 i, .float .f64 f, .string t, .slice Ab bs.length cb, .int .u64 r, .slice Al l.length cl, .slice Ad d.length cd, .string c, .int .i64 v] 29)).heap.size = w.heap.size + 1 := by simp
  clear hbs hl
  unfold termOf
  go_enter Tryz.func84, Tryz.ntmps84
  go_wp2
  go_loopw [3, 4] (fun y jx wr => ∃ k : Nat, jx = .int .i64 k ∧ k ≤ d.length ∧ Below (w.heap.size + 1) (w.alloc (.cells #[.int .i64 9, .bool b, .int .i64 i, .float .f64 f, .string t, .slice Ab bs.length cb, .int .u64 r, .slice Al l.length cl, .slice Ad d.length cd, .string c, .int .i64 v] 29)) wr ∧ OwnR bearsT 29 S wr (w.heap.size + 1) y ((d.take k).map (·.2))) (fun _ jx _ => d.length - (intOf jx).toNat)
  case atStart =>
    refine ⟨0, rfl, by omega, (Below.refl _ _).alloc (by simp) _, ?_⟩
    have := OwnR.empty (R := bearsT) (e := 29) S (w.alloc (.cells #[.int .i64 9, .bool b, .int .i64 i, .float .f64 f, .string t, .slice Ab bs.length cb, .int .u64 r, .slice Al l.length cl, .slice Ad d.length cd, .string c, .int .i64 v] 29)) (w.heap.size + 1) (by simp)
    simpa using this
  case round =>
    obtain ⟨k, rfl, hk, hb, hO⟩ := hrel
    have hz : w.heap.size + 1 ≤ wr.heap.size := by have := hb.size; rw [hsz] at this; exact this
    have hb0 : Below w.heap.size w wr := HA.out.trans (hb.mono (by omega))
    have c8 : wr.cell? ⟨w.heap.size, 8, none⟩ = some (.slice Ad d.length cd) := (hb.cell (p := ⟨w.heap.size, 8, none⟩) (show w.heap.size < w.heap.size + 1 by omega)).trans (by simp [go_sem])
    have hwl : w.heap.size < wr.heap.size := by omega
    by_cases hlt : k < d.length
    · obtain ⟨bk, off, rfl, hSb, hr⟩ := hd.resolve_left (fun h => by rw [h] at hlt; simp at hlt)
      have hbB := hS _ hSb
      have hbk : bk < wr.heap.size := by omega
      obtain ⟨p, hp⟩ : ∃ p, d[k]? = some p := ⟨_, List.getElem?_eq_getElem hlt⟩
      obtain ⟨_, _, y, hy, hT⟩ := RdTD.iff.1 hr k p hp
      have hy' := hy.keep (fun q hq => hb0.cell (show q.block < _ by rw [hq]; exact hbB))
      have hu2 : RdTS wr S p.2 y := RdTS.keep (fun q hq => hb0.cell (hS _ hq)) _ _ hT
      have HT : Hid ((d.take (k + 1)).map (·.2) = (d.take k).map (·.2) ++ [p.2]) := Lib.hid (by rw [List.take_add_one, hp]; simp)
      have hxl : ((d.take k).map (·.2)).length = k := by simp; omega
      obtain ⟨A1, c1, rfl⟩ := hO.form
      rw [hxl]
      have hu11 := hu2.len11
      obtain ⟨n0, n1, n2, n3, n4, n5, n6, n7, n8, n9, n10, rfl, h1c⟩ := hu2.eleven
      have hba : Below wr.heap.size wr (wr.alloc (.cells #[n0, n1, n2, n3, n4, n5, n6, n7, n8, n9, n10] 29)) := (Below.refl _ _).alloc (Nat.le_refl _) _
      have hO2 := hO.below hba
      obtain ⟨xs, hown, hx⟩ := hO2
      rw [hxl] at hown
      rw [hxl] at hx
      have hfr : RdTS (wr.alloc (.cells #[n0, n1, n2, n3, n4, n5, n6, n7, n8, n9, n10] 29)) (Fresh S (wr.alloc (.cells #[n0, n1, n2, n3, n4, n5, n6, n7, n8, n9, n10] 29)) (.slice A1 k c1)) p.2 [n0, n1, n2, n3, n4, n5, n6, n7, n8, n9, n10] := RdTS.more (fun b hb9 => ⟨hb9, by have := hS b hb9; simp; omega, fun he => by have := hS b hb9; have := (hown.lt b he).1; omega⟩) _ _ (RdTS.keep (fun q hq => hba.cell (show q.block < _ by have := hS _ hq; omega)) _ _ hu2)
      have q0 := hy' 0 _ rfl
      have q1 := hy' 1 _ rfl
      have q2 := hy' 2 _ rfl
      have q3 := hy' 3 _ rfl
      have q4 := hy' 4 _ rfl
      have q5 := hy' 5 _ rfl
      have q6 := hy' 6 _ rfl
      have q7 := hy' 7 _ rfl
      have q8 := hy' 8 _ rfl
      have q9 := hy' 9 _ rfl
      have q10 := hy' 10 _ rfl
      simp only [Nat.add_zero] at q0
      have hz3 : w.heap.size + 1 ≤ (wr.alloc (.cells #[n0, n1, n2, n3, n4, n5, n6, n7, n8, n9, n10] 29)).heap.size := by simp; omega
      have hS2 := hb.trans (hba.mono hz)
      clear hp hy hy' hT hd hr
      go_wp2_with (at_builtin; go_must (refine wpList_append_lies _ rfl (.tmp 26) (.tmp 33) 26 rfl (w.heap.size + 1) 29 i0 _ 11 152 Tryz.underlying26 hi0 hz0 hz1 hz2 rfl (by omega) (.slice A1 k c1) k xs rfl hown ⟨wr.heap.size, 0, none⟩ 1 1 [n0, n1, n2, n3, n4, n5, n6, n7, n8, n9, n10] rfl rfl (news_at rfl) h1c (by omega) (by simp only [maxLen]; omega) (by omega) hz3 _ rfl ?_); intro g cap w2 hown2 hg2 hat hlt2)
      refine ⟨⟨k + 1, rfl, hlt, hS2.grown hg2 hz3 (fun j hj => (hown.lt j hj).1), ?_⟩, ?_⟩
      · rw [HT.out]; exact OwnR.snoc (R := bearsT) hxl hown hx hfr hown2 hg2 hat
      · simp [intOf]; omega
    · obtain rfl : k = d.length := by omega
      rw [List.take_length] at hO
      obtain ⟨A2, c2, rfl, hR⟩ := hO.read
      clear hd
      go_wp2
      go_ret
      rw [HP.out]
      exact ⟨A2, c2, rfl, hR.more (fun b hb9 => hb9.1.elim (fun h => .inl h) (fun h => .inr ⟨by omega, hb9.2⟩)), hb0⟩
set_option maxRecDepth 100000 in
set_option maxHeartbeats 2000000 in
theorem rparts_10 (hx : RdTS w S (.mk 10 b i f t bs r l d c v) x) : Calls Tryz.prog 84 #[termOf x] w (TermsPost S (partsT (.mk 10 b i f t bs r l d c v)) w) := by
  obtain ⟨Ab, cb, Al, cl, Ad, cd, rfl, hk, hi, ht, hbl, ⟨hbn, hbs⟩, hr0, hr1, hc, hv, ⟨hll, hl⟩, ⟨hdl, hd⟩⟩ := hx
  obtain ⟨i0, hi0, hz0, hz1, hz2⟩ := info_parts Tryz.infoTerm
  have HP : Hid (partsT (.mk 10 b i f t bs r l d c v) = d.map (·.2)) := Lib.hid (by simp [partsT])
  have HA : Hid (Below w.heap.size w (w.alloc (.cells #[.int .i64 10, .bool b, .int .i64 i, .float .f64 f, .string t, .slice Ab bs.length cb, .int .u64 r, .slice Al l.length cl, .slice Ad d.length cd, .string c, .int .i64 v] 29))) := Lib.hid ((Below.refl _ _).alloc (Nat.le_refl _) _)
  have hsz : (w.alloc (.cells #[.int .i64 10, .bool b, .int .i64 i, .float .f64 f, .string t, .slice Ab bs.length cb, .int .u64 r, .slice Al l.length cl, .slice Ad d.length cd, .string c, .int .i64 v] 29)).heap.size = w.heap.size + 1 := by simp
  clear hbs hl
  unfold termOf
  go_enter Tryz.func84, Tryz.ntmps84
  go_wp2
  go_loopw [3, 4] (fun y jx wr => ∃ k : Nat, jx = .int .i64 k ∧ k ≤ d.length ∧ Below (w.heap.size + 1) (w.alloc (.cells #[.int .i64 10, .bool b, .int .i64 i, .float .f64 f, .string t, .slice Ab bs.length cb, .int .u64 r, .slice Al l.length cl, .slice Ad d.length cd, .string c, .int .i64 v] 29)) wr ∧ OwnR bearsT 29 S wr (w.heap.size + 1) y ((d.take k).map (·.2))) (fun _ jx _ => d.length - (intOf jx).toNat)
  case atStart =>
    refine ⟨0, rfl, by omega, (Below.refl _ _).alloc (by simp) _, ?_⟩
    have := OwnR.empty (R := bearsT) (e := 29) S (w.alloc (.cells #[.int .i64 10, .bool b, .int .i64 i, .float .f64 f, .string t, .slice Ab bs.length cb, .int .u64 r, .slice Al l.length cl, .slice Ad d.length cd, .string c, .int .i64 v] 29)) (w.heap.size + 1) (by simp)
    simpa using this
  case round =>
    obtain ⟨k, rfl, hk, hb, hO⟩ := hrel
    have hz : w.heap.size + 1 ≤ wr.heap.size := by have := hb.size; rw [hsz] at this; exact this
    have hb0 : Below w.heap.size w wr := HA.out.trans (hb.mono (by omega))
    have c8 : wr.cell? ⟨w.heap.size, 8, none⟩ = some (.slice Ad d.length cd) := (hb.cell (p := ⟨w.heap.size, 8, none⟩) (show w.heap.size < w.heap.size + 1 by omega)).trans (by simp [go_sem])
    have hwl : w.heap.size < wr.heap.size := by omega
    by_cases hlt : k < d.length
    · obtain ⟨bk, off, rfl, hSb, hr⟩ := hd.resolve_left (fun h => by rw [h] at hlt; simp at hlt)
      have hbB := hS _ hSb
      have hbk : bk < wr.heap.size := by omega
      obtain ⟨p, hp⟩ : ∃ p, d[k]? = some p := ⟨_, List.getElem?_eq_getElem hlt⟩
      obtain ⟨_, _, y, hy, hT⟩ := RdTD.iff.1 hr k p hp
      have hy' := hy.keep (fun q hq => hb0.cell (show q.block < _ by rw [hq]; exact hbB))
      have hu2 : RdTS wr S p.2 y := RdTS.keep (fun q hq => hb0.cell (hS _ hq)) _ _ hT
      have HT : Hid ((d.take (k + 1)).map (·.2) = (d.take k).map (·.2) ++ [p.2]) := Lib.hid (by rw [List.take_add_one, hp]; simp)
      have hxl : ((d.take k).map (·.2)).length = k := by simp; omega
      obtain ⟨A1, c1, rfl⟩ := hO.form
      rw [hxl]
      have hu11 := hu2.len11
      obtain ⟨n0, n1, n2, n3, n4, n5, n6, n7, n8, n9, n10, rfl, h1c⟩ := hu2.eleven
      have hba : Below wr.heap.size wr (wr.alloc (.cells #[n0, n1, n2, n3, n4, n5, n6, n7, n8, n9, n10] 29)) := (Below.refl _ _).alloc (Nat.le_refl _) _
      have hO2 := hO.below hba
      obtain ⟨xs, hown, hx⟩ := hO2
      rw [hxl] at hown
      rw [hxl] at hx
      have hfr : RdTS (wr.alloc (.cells #[n0, n1, n2, n3, n4, n5, n6, n7, n8, n9, n10] 29)) (Fresh S (wr.alloc (.cells #[n0, n1, n2, n3, n4, n5, n6, n7, n8, n9, n10] 29)) (.slice A1 k c1)) p.2 [n0, n1, n2, n3, n4, n5, n6, n7, n8, n9, n10] := RdTS.more (fun b hb9 => ⟨hb9, by have := hS b hb9; simp; omega, fun he => by have := hS b hb9; have := (hown.lt b he).1; omega⟩) _ _ (RdTS.keep (fun q hq => hba.cell (show q.block < _ by have := hS _ hq; omega)) _ _ hu2)
      have q0 := hy' 0 _ rfl
      have q1 := hy' 1 _ rfl
      have q2 := hy' 2 _ rfl
      have q3 := hy' 3 _ rfl
      have q4 := hy' 4 _ rfl
      have q5 := hy' 5 _ rfl
      have q6 := hy' 6 _ rfl
      have q7 := hy' 7 _ rfl
      have q8 := hy' 8 _ rfl
      have q9 := hy' 9 _ rfl
      have q10 := hy' 10 _ rfl
      simp only [Nat.add_zero] at q0
      have hz3 : w.heap.size + 1 ≤ (wr.alloc (.cells #[n0, n1, n2, n3, n4, n5, n6, n7, n8, n9, n10] 29)).heap.size := by simp; omega
      have hS2 := hb.trans (hba.mono hz)
      clear hp hy hy' hT hd hr
      go_wp2_with (at_builtin; go_must (refine wpList_append_lies _ rfl (.tmp 26) (.tmp 33) 26 rfl (w.heap.size + 1) 29 i0 _ 11 152 Tryz.underlying26 hi0 hz0 hz1 hz2 rfl (by omega) (.slice A1 k c1) k xs rfl hown ⟨wr.heap.size, 0, none⟩ 1 1 [n0, n1, n2, n3, n4, n5, n6, n7, n8, n9, n10] rfl rfl (news_at rfl) h1c (by omega) (by simp only [maxLen]; omega) (by omega) hz3 _ rfl ?_); intro g cap w2 hown2 hg2 hat hlt2)
      refine ⟨⟨k + 1, rfl, hlt, hS2.grown hg2 hz3 (fun j hj => (hown.lt j hj).1), ?_⟩, ?_⟩
      · rw [HT.out]; exact OwnR.snoc (R := bearsT) hxl hown hx hfr hown2 hg2 hat
      · simp [intOf]; omega
    · obtain rfl : k = d.length := by omega
      rw [List.take_length] at hO
      obtain ⟨A2, c2, rfl, hR⟩ := hO.read
      clear hd
      go_wp2
      go_ret
      rw [HP.out]
      exact ⟨A2, c2, rfl, hR.more (fun b hb9 => hb9.1.elim (fun h => .inl h) (fun h => .inr ⟨by omega, hb9.2⟩)), hb0⟩
end
theorem rparts_any (T : Tm) (x : List Value) (w : World) (S : Nat → Prop) (hS : ∀ b, S b → b < w.heap.size) (hx : RdTS w S T x) : Calls Tryz.prog 84 #[termOf x] w (TermsPost S (partsT T) w) := by
  obtain ⟨k, b, i, f, t, bs, r, l, d, c, v⟩ := T
  by_cases h8 : k = 8
  · subst h8; exact rparts_8 b i f t bs r l d c v x w S hS hx
  by_cases h9 : k = 9
  · subst h9; exact rparts_9 b i f t bs r l d c v x w S hS hx
  by_cases h10 : k = 10
  · subst h10; exact rparts_10 b i f t bs r l d c v x w S hS hx
  exact rparts_0 b i f t bs r l d c v x w S hS k h8 h9 h10 hx
end Go.Proofs.YtobpkelblpdajaaGreatDoor
