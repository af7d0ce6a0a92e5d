/- Walks: a value that cannot be, told by a digest's map, a type's check, a query, a heap, a registry. -/
import Derived.Test.YtobpkelblpdajaaGreatDoorNL28
import Derived.Test.YtobpkelblpdajaaGreatDoorNL16
import Derived.Lib.AppendStr
import Derived.Lib.UnsafeStr
set_option linter.unusedVariables false
set_option linter.unusedSimpArgs false
set_option linter.unusedSectionVars false
namespace Go.Proofs.YtobpkelblpdajaaGreatDoor
open Go Go.RowKit
attribute [local go_sem] ta_no_bool ta_yes_bool ta_nil_bool ta_no_int64 ta_yes_int64 ta_nil_int64 ta_no_flt ta_yes_flt ta_nil_flt ta_no_str ta_yes_str ta_nil_str ta_no_byt ta_yes_byt ta_nil_byt ta_no_ref ta_yes_ref ta_nil_ref ta_no_lst ta_yes_lst ta_nil_lst ta_no_dct ta_yes_dct ta_nil_dct ta_no_rec ta_yes_rec ta_nil_rec
/- A row of bytes that a call owns, from a block on. -/
def OwnB (w : World) (B : Nat) (v : Value) (l : List UInt8) : Prop := w.ownsRow B 5 1 v l.length (Lib.byteCells l)
def AppPost (B : Nat) (l : List UInt8) (w : World) (e : Ending) (w' : World) : Prop := ∃ v', e = .returned v' ∧ OwnB w' B v' l ∧ Below B w w'
theorem OwnB.nil (w : World) (B : Nat) : OwnB w B (.slice none 0 0) [] := World.ownsRow_nil w B _ 1
theorem OwnB.snoc {w : World} {B : Nat} {v : Value} {l : List UInt8} {c : UInt8} {n : Int} (hn : n = (c.toNat : Int)) (h : w.ownsRow B 5 1 v (l.length + 1) (Lib.byteCells l ++ [.int .u8 n])) : OwnB w B v (l ++ [c]) := by
  subst hn
  unfold OwnB
  rw [Lib.byteCells_append, List.length_append]
  exact h
theorem grown_below {B : Nat} {w w2 : World} {v : Value} {l : List UInt8} {o : Obj} (hown : OwnB w B v l) (hB : B ≤ w.heap.size) (hg : (w.alloc o).grownBy w2 v.ownBlock) : Below B w w2 :=
  ((Below.refl B w).alloc hB o).grown hg (by simp; omega) (fun j hj => (World.ownsRow.lt hown j hj).1)
set_option maxRecDepth 100000 in
set_option maxHeartbeats 1000000 in
theorem number_small (B : Nat) (v : Value) (l : List UInt8) (c : UInt8) (n : Int) (w : World) (hn : n = (c.toNat : Int)) (hc : n < 128) (hown : OwnB w B v l) (hB : B ≤ w.heap.size) (hl : l.length ≤ 1000) : Calls Tryz.prog 102 #[v, .int .u64 n] w (AppPost B (l ++ [c]) w) := by
  obtain ⟨i0, hi0, hz0, hz1, hz2⟩ := info_parts Tryz.infoByte
  have h0 : 0 ≤ n := by omega
  have hd : ¬ 128 ≤ n := by omega
  have hw8 : IntKind.u8.wrap n = n := by rw [IntKind.wrap_u8]; omega
  have HN := Lib.hid hn
  clear hn
  go_enter Tryz.func102, Tryz.ntmps102
  go_wp2
  go_loopw [0, 1] (fun u m wr => u = v ∧ m = .int .u64 n ∧ wr = w) (fun _ _ _ => 0)
  case atStart => exact ⟨rfl, rfl, rfl⟩
  case round =>
    obtain ⟨rfl, rfl, rfl⟩ := hrel
    go_wp2_with (at_builtin; refine wpList_append_own _ rfl (.tmp 15) (.tmp 18) 23 rfl B 5 i0 _ 1 1 Tryz.underlying23 hi0 hz0 hz1 hz2 rfl (by omega) _ l.length _ rfl (World.ownsRow.alloc hown _) ⟨wr.heap.size, 0, none⟩ 1 1 [_] rfl rfl (news_at rfl) (one_of1 rfl) (by unfold maxLen; omega) (by omega) (by simp; omega) ?_; intro v2 w2 hown2 hg2 _)
    go_ret
    exact ⟨v2, rfl, OwnB.snoc HN.out hown2, grown_below hown hB hg2⟩
set_option maxRecDepth 100000 in
set_option maxHeartbeats 1000000 in
theorem wtext_small (B : Nat) (v : Value) (l : List UInt8) (t : ByteArray) (w : World) (ht : t.size < 128) (hown : OwnB w B v l) (hB : B ≤ w.heap.size) (hl : l.length ≤ 800) : Calls Tryz.prog 104 #[v, .string t] w (AppPost B (l ++ [UInt8.ofNat t.size] ++ t.data.toList) w) := by
  obtain ⟨i0, hi0, hz0, hz1, hz2⟩ := info_parts Tryz.infoByte
  have hc : (UInt8.ofNat t.size).toNat = t.size := by rw [UInt8.toNat_ofNat']; omega
  have HN := Lib.hid (number_small B v l (UInt8.ofNat t.size) t.size w (by rw [hc]) (by omega) hown hB (by omega))
  have hw64 : IntKind.u64.wrap (t.size : Int) = t.size := by rw [IntKind.wrap_u64]; omega
  clear hc hown
  go_enter Tryz.func104, Tryz.ntmps104
  go_wp2_with fail
  refine HN.out.mono ?_
  rintro e w1 ⟨v1, rfl, hown, hb1⟩
  have hz1' := hb1.size
  go_wp2_with (at_builtin; refine Lib.wpList_append_own_string _ rfl (.tmp 9) (.tmp 10) 23 9 rfl B 5 i0 Tryz.underlying23 Tryz.underlying9 hi0 hz0 hz1 hz2 _ (l ++ [UInt8.ofNat t.size]).length _ rfl hown t rfl (by simp [maxLen]; omega) (by simp; omega) (by omega) ?_; intro v2 w2 hown2 hg2 _)
  go_ret
  refine ⟨v2, rfl, ?_, hb1.grown hg2 (by omega) (fun j hj => (World.ownsRow.lt hown j hj).1)⟩
  unfold OwnB
  rw [Lib.byteCells_append, List.length_append]
  have : t.data.toList.length = t.size := by simp
  rw [this]
  exact hown2
theorem ta_kind_a (w : World) : Calls Tryz.prog 101 #[.iface 9 (.string ⟨#[97]⟩)] w fun e w' => e = .returned (.int .i64 5) ∧ w' = w := by
  have h := kind_out (.text ⟨#[97]⟩) (.iface 9 (.string ⟨#[97]⟩)) w.heap.size w ⟨rfl, by decide⟩
  refine h.mono ?_
  rintro e w' ⟨rfl, rfl⟩
  exact ⟨rfl, rfl⟩
set_option maxRecDepth 100000 in
set_option maxHeartbeats 1000000 in
theorem wput_a (w : World) : Calls Tryz.prog 52 #[.slice none 0 0, .iface 9 (.string ⟨#[97]⟩)] w (AppPost w.heap.size [5, 1, 97] w) := by
  obtain ⟨i0, hi0, hz0, hz1, hz2⟩ := info_parts Tryz.infoByte
  have HK := Lib.hid (ta_kind_a w)
  have HT := Lib.hid (fun (B : Nat) (v : Value) (W : World) (h : OwnB W B v [5]) (hB : B ≤ W.heap.size) => wtext_small B v [5] ⟨#[97]⟩ W (by decide) h hB (by decide))
  have hown : OwnB w w.heap.size (.slice none 0 0) [] := OwnB.nil w _
  go_enter Tryz.func52, Tryz.ntmps52
  go_wp2_with fail
  refine HK.out.mono ?_
  rintro e w' ⟨rfl, rfl⟩
  go_wp2_with (at_builtin; refine wpList_append_own _ rfl (.tmp 18) (.tmp 22) 23 rfl w'.heap.size 5 i0 _ 1 1 Tryz.underlying23 hi0 hz0 hz1 hz2 rfl (by omega) _ 0 _ rfl (World.ownsRow.alloc hown _) ⟨w'.heap.size, 0, none⟩ 1 1 [_] rfl rfl (news_at rfl) (one_of1 rfl) (by unfold maxLen; omega) (by omega) (by simp) ?_; intro v2 w2 hown2 hg2 _; refine Hid.out ?_)
  have hown3 : OwnB w2 w'.heap.size v2 [5] := hown2
  have hb2 : Below w'.heap.size w' w2 := grown_below hown (Nat.le_refl _) hg2
  have HT2 := Lib.hid (HT.out _ _ _ hown3 hb2.size)
  clear hown2 hown hg2
  refine Lib.hid ?_
  go_wp2_with fail
  refine HT2.out.mono ?_
  rintro e w3 ⟨v3, rfl, hown4, hb3⟩
  go_wp2
  go_ret
  exact ⟨v3, rfl, hown4, hb2.trans hb3⟩
set_option maxRecDepth 100000 in
set_option maxHeartbeats 1000000 in
theorem enc_a (w : World) : Calls Tryz.prog 17 #[.iface 9 (.string ⟨#[97]⟩)] w fun e w' => ∃ u, e = .returned (.tuple #[u, .int .i64 0]) ∧ Below w.heap.size w w' := by
  have H0 : Hid (Calls Tryz.prog 13 #[.iface 9 (.string ⟨#[97]⟩)] w (fun e w' => e = .returned (.tuple #[.int .i64 0, .int .i64 0]) ∧ Below w.heap.size w w')) := Lib.hid (by
    have := check_out (.text ⟨#[97]⟩) (.iface 9 (.string ⟨#[97]⟩)) w ⟨rfl, by decide⟩
    unfold CheckPost at this
    rw [checkV_yes (by rfl)] at this
    exact this)
  have HP := Lib.hid (fun (W : World) => wput_a W)
  go_enter Tryz.func17, Tryz.ntmps17
  go_wp2_with fail
  refine H0.out.mono ?_
  rintro e w1 ⟨rfl, hb1⟩
  go_wp2_with fail
  refine (HP.out _).mono ?_
  rintro e w2 ⟨u, rfl, -, hb2⟩
  go_wp2
  go_ret2
  exact ⟨u, rfl, below_then hb1 (Nat.le_refl _) hb2⟩
set_option maxRecDepth 100000 in
set_option maxHeartbeats 1000000 in
theorem mput_bad (p : Value) (x : V) (v : Value) (w : World) (h : Rd w w.heap.size x v) (hz : (checkV x).2 ≠ 0) : Calls Tryz.prog 19 #[p, .iface 9 (.string ⟨#[97]⟩), v] w (ErrPost [.nilIface, .bool false] (checkV x).2 w) := by
  have HC : Hid (∀ W, Below w.heap.size w W → Calls Tryz.prog 13 #[v] W (fun e w' => e = .returned (.tuple #[.int .i64 (checkV x).1, .int .i64 (checkV x).2]) ∧ Below W.heap.size W w')) := Lib.hid (fun W hW => check_out x v W (Rd.more hW.size _ _ (h.below hW)))
  have HE := Lib.hid (enc_a w)
  generalize checkV x = ck at *
  have hq : ((ck.2 : Int) != 0) = true := by rw [bne_iff_ne]; omega
  clear h hz
  go_enter Tryz.func19, Tryz.ntmps19
  go_wp2_with fail
  refine HE.out.mono ?_
  rintro e w1 ⟨u, rfl, hb1⟩
  go_wp2_with fail
  refine (HC.out _ hb1).mono ?_
  rintro e w2 ⟨rfl, hb2⟩
  go_wp2
  go_ret3
  exact ⟨rfl, below_then hb1 (Nat.le_refl _) hb2⟩
end Go.Proofs.YtobpkelblpdajaaGreatDoor
