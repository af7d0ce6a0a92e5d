/- Walks: slices.Grow, slices.Concat, slices.Clone. -/
import Derived.Test.YtbemeapjeipjlaaGreatDoorQL20
import Derived.Lib.AppendZeros
import Derived.Lib.LazyBuf
import Derived.Test.YtbemeapjeipjlaaGreatDoorQL07
set_option linter.unusedVariables false
set_option linter.unusedSimpArgs false
namespace Go.Proofs.YtbemeapjeipjlaaGreatDoor
open Go Go.RowKit
attribute [local go_sem] ta_no_bool ta_yes_bool ta_nil_bool ta_no_int64 ta_yes_int64 ta_nil_int64 ta_no_flt ta_yes_flt ta_nil_flt ta_no_str ta_yes_str ta_nil_str ta_no_byt ta_yes_byt ta_nil_byt ta_no_ref ta_yes_ref ta_nil_ref ta_no_lst ta_yes_lst ta_nil_lst ta_no_dct ta_yes_dct ta_nil_dct ta_no_rec ta_yes_rec ta_nil_rec
def GrowPost (w : World) (e : Ending) (w' : World) : Prop := ∃ v, e = .returned v ∧ w'.ownsRow w.heap.size 5 1 v 0 [] ∧ Below w.heap.size w w'
set_option maxRecDepth 100000 in
set_option maxHeartbeats 1000000 in
theorem grow_any (n : Nat) (w : World) (hn : n ≤ 140737488355328) : Calls Tryz.prog 153 #[.slice none 0 0, .int .i64 n] w (GrowPost w) := by
  obtain ⟨i0, hi0, hz0, hz1, hz2⟩ := info_parts Tryz.infoByte
  by_cases h0 : n = 0
  · subst h0
    go_enter Tryz.func153, Tryz.ntmps153
    go_wp2
    go_ret
    exact ⟨_, rfl, World.ownsRow_nil _ _ _ _, Below.refl _ _⟩
  · have hr := Lib.run_append_nil_zeros (P := Tryz.prog) w 24 3 24 5 i0 _ .i64 .i64 Tryz.underlying24 Tryz.underlying3 hi0 hz0 n (by omega) (by omega) (by omega) (by rw [hz2]; omega)
    have hge := grownCap_ge w n 0 5
    have hle := grownCap_le_maxLen w n 0 5 (by simp only [maxLen]; omega)
    have hown : (w.drew.alloc (.cells (Builtin.zeroCells (Value.cells (.int .u8 0)) n ++ Builtin.zeroCells (Value.cells (.int .u8 0)) (grownCap w n 0 5 - n)) 5)).ownsRow w.heap.size 5 1 (.slice (some ⟨w.heap.size, 0, none⟩) 0 (grownCap w n 0 5)) 0 [] :=
      World.ownsRow_made w.drew _ _ (Nat.le_refl _) hle (by rw [Array.size_append, size_zeroCells, size_zeroCells, show (Value.cells (.int .u8 0)).size = 1 from rfl]; omega)
    have hb : Below w.heap.size w (w.drew.alloc (.cells (Builtin.zeroCells (Value.cells (.int .u8 0)) n ++ Builtin.zeroCells (Value.cells (.int .u8 0)) (grownCap w n 0 5 - n)) 5)) := ((Below.refl _ _).drew).alloc (Nat.le_refl _) _
    have hlt : (n : Int) > 0 := by omega
    generalize grownCap w n 0 5 = cap at *
    generalize hW : w.drew.alloc (.cells (Builtin.zeroCells (Value.cells (.int .u8 0)) n ++ Builtin.zeroCells (Value.cells (.int .u8 0)) (cap - n)) 5) = W at *
    clear hW
    go_enter Tryz.func153, Tryz.ntmps153
    go_wp2_with (at_builtin; refine Lib.wpList_append_run _ rfl _ _ _ _ rfl _ _ rfl rfl _ _ hr ?_)
    go_wp2
    go_ret
    exact ⟨_, rfl, hown, hb⟩
/- A slice of bytes, as an append takes it. -/
theorem ByteRow.face {w : World} {S : Nat → Prop} {A : Option Addr} {c : Nat} {l : List UInt8} (h : ByteRow w S A l) (hn : A = none → c = 0) : (A = none ∧ l = [] ∧ c = 0) ∨ ∃ ad, A = some ad ∧ ∀ j u, (bvals l)[j]? = some u → w.cell? (ad.add j) = some u := by
  cases A with
  | none =>
    rcases h with h | ⟨b, off, h, _⟩
    · exact .inl ⟨rfl, h, hn rfl⟩
    · cases h
  | some ad => exact .inr ⟨ad, rfl, ByteRow.news h⟩
def ConcatPost (l : List UInt8) (w : World) (e : Ending) (w' : World) : Prop := ∃ A c, e = .returned (.slice A l.length c) ∧ (A = none → c = 0) ∧ ByteRow w' (New w w') A l ∧ Below w.heap.size w w'
set_option maxRecDepth 100000 in
set_option maxHeartbeats 1000000 in
theorem concat_any (x y : List UInt8) (A1 A2 : Option Addr) (c1 c2 : Nat) (S : Nat → Prop) (w : World) (bl : Nat) (hx : ByteRow w S A1 x) (hy : ByteRow w S A2 y) (hn1 : A1 = none → c1 = 0) (hn2 : A2 = none → c2 = 0) (hS : ∀ b, S b → b < w.heap.size)
    (hl1 : x.length ≤ 65536) (hl2 : y.length ≤ 65536) (hbl : bl < w.heap.size) (q0 : w.cell? ⟨bl, 0, none⟩ = some (.slice A1 x.length c1)) (q1 : w.cell? ⟨bl, 1, none⟩ = some (.slice A2 y.length c2)) :
    Calls Tryz.prog 136 #[.slice (some ⟨bl, 0, none⟩) 2 2] w (ConcatPost (x ++ y) w) := by
  obtain ⟨i0, hi0, hz0, hz1, hz2⟩ := info_parts Tryz.infoByte
  have HG : Hid (∀ n : Nat, n ≤ 140737488355328 → Calls Tryz.prog 153 #[.slice none 0 0, .int .i64 n] w (GrowPost w)) := Lib.hid (fun n hn => grow_any n w hn)
  go_enter Tryz.func136, Tryz.ntmps136
  go_wp2
  go_loopw [3, 11] (fun s i wr => (i = .int .i64 0 ∧ s = .int .i64 0 ∨ i = .int .i64 1 ∧ s = .int .i64 x.length ∨ i = .int .i64 2 ∧ s = .int .i64 (x.length + y.length)) ∧ w = wr) (fun _ i _ => 2 - (intOf i).toNat)
  case atStart => exact ⟨.inl ⟨rfl, rfl⟩, rfl⟩
  case round =>
    obtain ⟨hrel, rfl⟩ := hrel
    rcases hrel with ⟨rfl, rfl⟩ | ⟨rfl, rfl⟩ | ⟨rfl, rfl⟩
    · have e0 : wrap64 (x.length : Int) = x.length := by unfold wrap64; omega
      go_wp2
      refine ⟨⟨.inr (.inl ⟨rfl, by simp [e0]⟩), trivial⟩, ?_⟩
      simp [intOf]
    · have e0 : wrap64 ((x.length : Int) + y.length) = x.length + y.length := by unfold wrap64; omega
      go_wp2
      refine ⟨⟨.inr (.inr ⟨rfl, by simp [e0]⟩), trivial⟩, ?_⟩
      simp [intOf]
    · have HG2 := Lib.hid (HG.out (x.length + y.length) (by omega))
      clear HG
      go_wp2_with fail
      refine (by have := HG2.out; rw [Int.natCast_add] at this; exact this : Calls Tryz.prog 153 #[.slice none 0 0, .int .i64 ((x.length : Int) + y.length)] w (GrowPost w)).mono ?_
      rintro e w1 ⟨v1, rfl, hown, hb1⟩
      have hz := hb1.size
      go_wp2
      go_loopw [6, 27] (fun v i wr => (i = .int .i64 0 ∧ wr.ownsRow w.heap.size 5 1 v 0 [] ∨ i = .int .i64 1 ∧ wr.ownsRow w.heap.size 5 1 v x.length (bvals x) ∨ i = .int .i64 2 ∧ wr.ownsRow w.heap.size 5 1 v (x.length + y.length) (bvals x ++ bvals y)) ∧ Below w.heap.size w wr) (fun _ i _ => 2 - (intOf i).toNat)
      case atStart => exact ⟨.inl ⟨rfl, hown⟩, hb1⟩
      case round =>
        clear hown hb1 hz
        obtain ⟨hrel, hb⟩ := hrel
        have hz := hb.size
        have p0 := (hb.cell (p := ⟨bl, 0, none⟩) hbl).trans q0
        have p1 := (hb.cell (p := ⟨bl, 1, none⟩) hbl).trans q1
        rcases hrel with ⟨rfl, hown⟩ | ⟨rfl, hown⟩ | ⟨rfl, hown⟩
        · rcases (hx.keep (fun p hp => hb.cell (hS _ hp))).face hn1 with ⟨rfl, rfl, rfl⟩ | ⟨ad, rfl, hnw⟩
          · go_wp2_with (at_builtin; refine wpList_append_own_none rfl _ _ 24 rfl w.heap.size 5 i0 1 Tryz.underlying24 hi0 _ 0 [] rfl hown rfl ?_)
            go_wp2
            refine ⟨⟨_, _, _, .inr (.inl ⟨rfl, by simpa [bvals] using hown⟩), rfl, rfl, rfl⟩, ?_⟩
            simp [intOf]
          · go_wp2_with (at_builtin; go_must (refine wpList_append_own _ rfl _ _ 24 rfl w.heap.size 5 i0 _ 1 1 Tryz.underlying24 hi0 hz0 hz1 hz2 rfl (by omega) _ 0 [] rfl hown ad x.length c1 (bvals x) rfl (by simp [bvals]) hnw (one_bvals x) (by simp only [maxLen]; omega) (by omega) hz ?_); intro v' w2 hown2 hg2 hnil)
            go_wp2
            refine ⟨⟨.inr (.inl ⟨rfl, by simpa using hown2⟩), hb.grown hg2 hz (fun j hj => (hown.lt j hj).1)⟩, ?_⟩
            simp [intOf]
        · rcases (hy.keep (fun p hp => hb.cell (hS _ hp))).face hn2 with ⟨rfl, rfl, rfl⟩ | ⟨ad, rfl, hnw⟩
          · go_wp2_with (at_builtin; refine wpList_append_own_none rfl _ _ 24 rfl w.heap.size 5 i0 1 Tryz.underlying24 hi0 _ x.length (bvals x) rfl hown rfl ?_)
            go_wp2
            refine ⟨⟨_, _, _, .inr (.inr ⟨rfl, by simpa [bvals] using hown⟩), rfl, rfl, rfl⟩, ?_⟩
            simp [intOf]
          · go_wp2_with (at_builtin; go_must (refine wpList_append_own _ rfl _ _ 24 rfl w.heap.size 5 i0 _ 1 1 Tryz.underlying24 hi0 hz0 hz1 hz2 rfl (by omega) _ x.length (bvals x) rfl hown ad y.length c2 (bvals y) rfl (by simp [bvals]) hnw (one_bvals y) (by simp only [maxLen]; omega) (by omega) hz ?_); intro v' w2 hown2 hg2 hnil)
            go_wp2
            refine ⟨⟨.inr (.inr ⟨rfl, hown2⟩), hb.grown hg2 hz (fun j hj => (hown.lt j hj).1)⟩, ?_⟩
            simp [intOf]
        · have hown' : wr.ownsRow w.heap.size 5 1 u6 (x ++ y).length (bvals (x ++ y)) := by simpa [bvals] using hown
          obtain ⟨A, c, rfl, hA, hB⟩ := bytes_of_row hown'
          go_wp2
          go_ret
          exact ⟨A, c, rfl, hA, hB, hb⟩
end Go.Proofs.YtbemeapjeipjlaaGreatDoor
/- Walks: slices.Clone, query.joined. -/
namespace Go.Proofs.YtbemeapjeipjlaaGreatDoor
open Go Go.RowKit
attribute [local go_sem] ta_no_bool ta_yes_bool ta_nil_bool ta_no_int64 ta_yes_int64 ta_nil_int64 ta_no_flt ta_yes_flt ta_nil_flt ta_no_str ta_yes_str ta_nil_str ta_no_byt ta_yes_byt ta_nil_byt ta_no_ref ta_yes_ref ta_nil_ref ta_no_lst ta_yes_lst ta_nil_lst ta_no_dct ta_yes_dct ta_nil_dct ta_no_rec ta_yes_rec ta_nil_rec
/- A row of values, as they lie. -/
def Vals (w : World) (S : Nat → Prop) (l : List V) (xs : List Value) : Prop := xs.length = l.length ∧ ∀ (i : Nat) (x : V), l[i]? = some x → ∃ u, xs[i]? = some u ∧ RdS w S x u
theorem Vals.one {w : World} {S : Nat → Prop} {l : List V} {xs : List Value} (h : Vals w S l xs) : ∀ u ∈ xs, u.oneCell' = true := by
  intro u hu
  obtain ⟨i, hi, rfl⟩ := List.getElem_of_mem hu
  have hi2 : i < l.length := by rw [← h.1]; exact hi
  obtain ⟨u', hu', hr⟩ := h.2 i l[i] (List.getElem?_eq_getElem hi2)
  rw [List.getElem?_eq_getElem hi] at hu'
  injection hu' with e
  rw [e]; exact hr.one
theorem Vals.keep {w w' : World} {S : Nat → Prop} {l : List V} {xs : List Value} (h : Vals w S l xs) (hk : ∀ p : Addr, S p.block → w'.cell? p = w.cell? p) : Vals w' S l xs :=
  ⟨h.1, fun i x hi => by obtain ⟨u, hu, hr⟩ := h.2 i x hi; exact ⟨u, hu, RdS.keep hk _ _ hr⟩⟩
theorem Vals.nil (w : World) (S : Nat → Prop) : Vals w S [] [] := ⟨rfl, fun i x h => by cases h⟩
theorem Vals.join {w : World} {S : Nat → Prop} {l l2 : List V} {xs ys : List Value} (h : Vals w S l xs) (h2 : Vals w S l2 ys) : Vals w S (l ++ l2) (xs ++ ys) := by
  refine ⟨by simp [h.1, h2.1], fun i x hi => ?_⟩
  by_cases hlt : i < l.length
  · rw [List.getElem?_append_left hlt] at hi
    obtain ⟨u, hu, hr⟩ := h.2 i x hi
    exact ⟨u, by rw [List.getElem?_append_left (by rw [h.1]; exact hlt)]; exact hu, hr⟩
  · rw [List.getElem?_append_right (by omega)] at hi
    obtain ⟨u, hu, hr⟩ := h2.2 _ x hi
    exact ⟨u, by rw [List.getElem?_append_right (by rw [h.1]; omega), h.1]; exact hu, hr⟩
theorem list_face {w : World} {S : Nat → Prop} {A : Option Addr} {c : Nat} {l : List V} (h : l = [] ∨ ∃ b off, A = some ⟨b, off, none⟩ ∧ S b ∧ RdL w S b off l) (hn : A = none → c = 0) :
    ∃ xs, Vals w S l xs ∧ ((A = none ∧ l = [] ∧ c = 0) ∨ ∃ ad, A = some ad ∧ ∀ j u, xs[j]? = some u → w.cell? (ad.add j) = some u) := by
  rcases h with rfl | ⟨b, off, rfl, hb, hr⟩
  · refine ⟨[], Vals.nil w S, ?_⟩
    cases A with
    | none => exact .inl ⟨rfl, rfl, hn rfl⟩
    | some ad => exact .inr ⟨ad, rfl, fun j u hj => by simp at hj⟩
  · have hi := RdL.iff.1 hr
    refine ⟨(List.range l.length).map fun i => (w.cell? ⟨b, off + i, none⟩).getD undef, ⟨by simp, fun i x hx => ?_⟩, .inr ⟨_, rfl, fun j u hj => ?_⟩⟩
    · obtain ⟨v, hv, hd⟩ := hi i x hx
      have hlt := (List.getElem?_eq_some_iff.1 hx).1
      exact ⟨v, by simp [hlt, hv], hd⟩
    · have hlt : j < l.length := by have := (List.getElem?_eq_some_iff.1 hj).1; simpa using this
      obtain ⟨v, hv, hd⟩ := hi j _ (List.getElem?_eq_getElem hlt)
      simp [hlt, hv] at hj
      subst hj
      have e : (⟨b, off, none⟩ : Addr).add j = ⟨b, off + j, none⟩ := by
        unfold Addr.add
        split
        · rename_i h0; subst h0; rfl
        · rfl
      rw [e]; exact hv
theorem own_read {w : World} {S : Nat → Prop} {B : Nat} {v : Value} {l : List V} {xs : List Value} (ho : w.ownsRow B 20 1 v l.length xs) (hv : Vals w S l xs) (hS : ∀ b, S b → b < B) (hB : B ≤ w.heap.size) (hl : l.length ≤ 1099511627776) :
    RdS w (fun b => S b ∨ (B ≤ b ∧ b < w.heap.size)) (.list l) (.iface 73 v) := by
  have : OwnV S w B v l := ⟨xs, ho, fun i x hi => by
    obtain ⟨u, hu, hr⟩ := hv.2 i x hi
    refine ⟨u, hu, RdS.more (fun b hb => ⟨hb, Nat.lt_of_lt_of_le (hS b hb) hB, fun e => ?_⟩) _ _ hr⟩
    have := (ho.lt b e).1
    have := hS b hb
    omega⟩
  exact RdS.more (fun b hb => hb.1.elim .inl (fun h => .inr ⟨h, hb.2⟩)) _ _ (this.read hl)
def ClonePost (S : Nat → Prop) (l : List V) (w : World) (e : Ending) (w' : World) : Prop := ∃ v xs, e = .returned v ∧ w'.ownsRow w.heap.size 20 1 v l.length xs ∧ Vals w' S l xs ∧ Below w.heap.size w w'
set_option maxRecDepth 100000 in
set_option maxHeartbeats 1000000 in
theorem clone_any (l : List V) (A : Option Addr) (c : Nat) (S : Nat → Prop) (w : World) (hS : ∀ b, S b → b < w.heap.size) (hl : l.length ≤ 1099511627776) (hn : A = none → c = 0) (hr : l = [] ∨ ∃ b off, A = some ⟨b, off, none⟩ ∧ S b ∧ RdL w S b off l) :
    Calls Tryz.prog 137 #[.slice A l.length c] w (ClonePost S l w) := by
  obtain ⟨i0, hi0, hz0, hz1, hz2⟩ := info_parts Tryz.infoAny
  obtain ⟨xs, hv, hf⟩ := list_face hr hn
  have hb0 : Below w.heap.size w (w.alloc (.cells #[] 20)) := (Below.refl _ _).alloc (Nat.le_refl _) _
  have hown := ownsRow_empty w w.heap.size 20 1 (Nat.le_refl _)
  clear hr
  rcases hf with ⟨rfl, rfl, rfl⟩ | ⟨ad, rfl, hnw⟩
  · have k0 := fun (W : World) => _root_.Go.run_eql_slice_nil (P := Tryz.prog) W 73 20 none 0 0 Tryz.underlying73
    go_enter Tryz.func137, Tryz.ntmps137
    go_wp2
    go_ret
    exact ⟨_, [], rfl, World.ownsRow_nil _ _ _ _, Vals.nil _ _, Below.refl _ _⟩
  · have hnw2 : ∀ j u, xs[j]? = some u → (w.alloc (.cells #[] 20)).cell? (ad.add j) = some u := fun j u hj => by
      have h1 := hnw j u hj
      have hlt := World.block_lt_of_cell? w (ad.add j) h1
      exact (hb0.cell hlt).trans h1
    have hone := hv.one
    have hlen := hv.1
    have k0 := fun (W : World) => _root_.Go.run_eql_slice_nil (P := Tryz.prog) W 73 20 (some ad) l.length c Tryz.underlying73
    go_enter Tryz.func137, Tryz.ntmps137
    go_wp2_with (at_builtin; go_must (refine wpList_append_own _ rfl _ _ 73 rfl w.heap.size 20 i0 _ 1 16 Tryz.underlying73 hi0 hz0 hz1 hz2 rfl (by omega) _ 0 [] rfl hown ad l.length c xs rfl (by omega) hnw2 hone (by simp only [maxLen]; omega) (by omega) (by simp) ?_); intro v' w2 hown2 hg2 hnil)
    have hb2 := hb0.grown hg2 hb0.size (fun j hj => (hown.lt j hj).1)
    go_wp2
    go_ret
    exact ⟨_, xs, rfl, by simpa using hown2, hv.keep (fun p hp => hb2.cell (hS _ hp)), hb2⟩
set_option maxRecDepth 100000 in
set_option maxHeartbeats 1000000 in
theorem joined_text (op : ByteArray) (a : Int) (p : Value) (nm : ByteArray) (y : List Value) (hy : Eleven y) (hp : p.oneCell' = true) (x z : ByteArray) (S : Nat → Prop) (w : World) (hS : ∀ b, S b → b < w.heap.size) (hx : x.size ≤ 65536) (hz : z.size ≤ 65536) :
    Calls Tryz.prog 103 #[eV op a p nm y, .iface 9 (.string x), .iface 9 (.string z)] w (OutPost S (joinedV a (.text x) (.text z)) w) := by
  have HG := Lib.hid (fun (W : World) (hW : Below w.heap.size w W) => good_any op a p nm y hy hp (.text (x ++ z)) (.iface 9 (.string (x ++ z))) S W (fun b h => Nat.lt_of_lt_of_le (hS b h) hW.size) ⟨rfl, by simp [ByteArray.size_append]; omega⟩)
  have HF : Hid (joinedV a (.text x) (.text z) = goodV a (.text (x ++ z))) := Lib.hid rfl
  have HBad := Lib.hid (fun (W : World) => bad_any op a p nm y hy hp W)
  obtain ⟨n0, n1, n2, n3, n4, n5, n6, n7, n8, n9, n10, rfl, h1⟩ := hy
  clear h1
  unfold eV at *
  have HB : Hid (Below w.heap.size w (w.alloc (.cells #[.string op, .int .i64 a, p, .string nm, n0, n1, n2, n3, n4, n5, n6, n7, n8, n9, n10] 32))) := Lib.hid ((Below.refl _ _).alloc (Nat.le_refl _) _)
  go_enter Tryz.func103, Tryz.ntmps103
  go_wp2_with fail
  refine (HG.out _ HB.out).mono ?_
  rintro e w9 ⟨hb9, hr9⟩
  have hbb := HB.out.trans (hb9.mono (by simp))
  cases hg : goodV a (.text (x ++ z)) with
  | val t =>
    rw [hg] at hr9
    obtain ⟨v9, rfl, hv9⟩ := hr9
    go_wp2
    go_ret
    exact ⟨hbb, by rw [HF.out, hg]; exact ⟨v9, rfl, RdS.more (fun b h => h.imp id (fun h => ⟨by have := h.1; simp at this; omega, h.2⟩)) _ _ hv9⟩⟩
  | gone b why =>
    rw [hg] at hr9
    obtain rfl := hr9
    exact ⟨rfl, hbb, by rw [HF.out, hg]⟩
end Go.Proofs.YtbemeapjeipjlaaGreatDoor
/- Walks: query.joined. -/
namespace Go.Proofs.YtbemeapjeipjlaaGreatDoor
open Go Go.RowKit
attribute [local go_sem] ta_no_bool ta_yes_bool ta_nil_bool ta_no_int64 ta_yes_int64 ta_nil_int64 ta_no_flt ta_yes_flt ta_nil_flt ta_no_str ta_yes_str ta_nil_str ta_no_byt ta_yes_byt ta_nil_byt ta_no_ref ta_yes_ref ta_nil_ref ta_no_lst ta_yes_lst ta_nil_lst ta_no_dct ta_yes_dct ta_nil_dct ta_no_rec ta_yes_rec ta_nil_rec
set_option maxRecDepth 100000 in
set_option maxHeartbeats 1000000 in
theorem joined_bytes (op : ByteArray) (a : Int) (p : Value) (nm : ByteArray) (y : List Value) (hy : Eleven y) (hp : p.oneCell' = true) (x z : List UInt8) (A1 A2 : Option Addr) (c1 c2 : Nat) (S : Nat → Prop) (w : World) (hS : ∀ b, S b → b < w.heap.size) (hx : x.length ≤ 65536) (hz : z.length ≤ 65536) (h1 : A1 = none → c1 = 0) (h2 : A2 = none → c2 = 0) (r1 : ByteRow w S A1 x) (r2 : ByteRow w S A2 z) :
    Calls Tryz.prog 103 #[eV op a p nm y, .iface 24 (.slice A1 x.length c1), .iface 24 (.slice A2 z.length c2)] w (OutPost S (joinedV a (.bytes x) (.bytes z)) w) := by
  have HG := Lib.hid (fun (W : World) (A : Option Addr) (c : Nat) (hn : A = none → c = 0) (hr : ByteRow W (New w W) A (x ++ z)) => good_any op a p nm y hy hp (.bytes (x ++ z)) (.iface 24 (.slice A (x.length + z.length) c)) (New w W) W (fun b h => h.2) ⟨A, c, by rw [List.length_append], by simp; omega, hn, hr⟩)
  have HC := Lib.hid (fun (W : World) (hW : Below w.heap.size w W) (bl : Nat) (hbl : bl < W.heap.size) (q0 : W.cell? ⟨bl, 0, none⟩ = some (.slice A1 x.length c1)) (q1 : W.cell? ⟨bl, 1, none⟩ = some (.slice A2 z.length c2)) =>
    concat_any x z A1 A2 c1 c2 S W bl (r1.keep (fun p hp => hW.cell (hS _ hp))) (r2.keep (fun p hp => hW.cell (hS _ hp))) h1 h2 (fun b h => Nat.lt_of_lt_of_le (hS b h) hW.size) hx hz hbl q0 q1)
  have HF : Hid (joinedV a (.bytes x) (.bytes z) = goodV a (.bytes (x ++ z))) := Lib.hid rfl
  clear r1 r2
  have HBad := Lib.hid (fun (W : World) => bad_any op a p nm y hy hp W)
  obtain ⟨n0, n1, n2, n3, n4, n5, n6, n7, n8, n9, n10, rfl, hone⟩ := hy
  clear hone
  unfold eV at *
  have HB : Hid (Below w.heap.size w (w.alloc (.cells #[.string op, .int .i64 a, p, .string nm, n0, n1, n2, n3, n4, n5, n6, n7, n8, n9, n10] 32))) := Lib.hid ((Below.refl _ _).alloc (Nat.le_refl _) _)
  go_enter Tryz.func103, Tryz.ntmps103
  go_wp2
  refine wp_region_heldS (fun W => Below (w.heap.size + 1) (w.alloc (.cells #[.string op, .int .i64 a, p, .string nm, n0, n1, n2, n3, n4, n5, n6, n7, n8, n9, n10] 32)) W) 3 (by kernel_rfl) (by kernel_rfl) (fun _ _ _ _ _ h => h) ?_ ?_
  · ((exact below_drewN (Below.refl _ _) 1))
  simp only [List.take_succ_cons, List.take_zero]
  repeat (refine HdS.step (fun K hK => ?_); go_simp; first | (refine hK _ ?_; clear hK K) | (apply Exists.intro; refine ⟨fun W hW => ?_, hK _ ?_⟩; (first | (intros; rfl) | ((obtain ⟨hc, hf⟩ := bcellB hW; go_simp; rfl))); clear hK K))
  refine HdS.nil ?_
  simp only [List.drop_succ_cons, List.drop_zero]
  refine SeqS.step (fun K hK => ?_)
  go_simp
  refine hK _ _ (((Below.refl _ _).alloc (by simp) _).drew) ?_
  clear hK K
  refine SeqS.step (fun K hK => ?_)
  go_simp
  go_at_call 136
  refine (HC.out _ ((HB.out.alloc (by simp) _).drew) _ (by simp) (by simp [go_sem]) (by simp [go_sem])).mono ?_
  rintro e w1 ⟨A, c, rfl, hn, hrow, hb1⟩
  have hb2 := (((Below.refl (w.heap.size + 1) (w.alloc (.cells #[.string op, .int .i64 a, p, .string nm, n0, n1, n2, n3, n4, n5, n6, n7, n8, n9, n10] 32))).alloc (by simp) (.cells #[.slice A1 x.length c1, .slice A2 z.length c2] 24)).drew).trans (hb1.mono (by simp))
  have hb3 := HB.out.trans (hb2.mono (by omega))
  refine hK _ _ hb2 ?_
  clear hK K
  refine SeqS.step (fun K hK => ?_)
  go_simp
  refine hK _ _ hb2 ?_
  clear hK K
  refine SeqS.step (fun K hK => ?_)
  go_simp
  go_at_call 65
  refine (HG.out w1 A c hn (hrow.more (fun b h => ⟨by have := h.1; simp at this; omega, h.2⟩))).mono ?_
  rintro e w9 ⟨hb9, hr9⟩
  have hbb := below_then hb3 (Nat.le_refl _) hb9
  have hs9 := hb9.size
  cases hg : goodV a (.bytes (x ++ z)) with
  | val t =>
    rw [hg] at hr9
    obtain ⟨v9, rfl, hv9⟩ := hr9
    refine hK _ _ (hb2.trans (hb9.mono (by have := hb2.size; simp at this; omega))) ?_
    clear hK K
    refine SeqS.step (fun K hK => ?_)
    go_simp
    refine hK _ _ (hb2.trans (hb9.mono (by have := hb2.size; simp at this; omega))) ?_
    clear hK K
    refine SeqS.nil ?_
    go_wp2
    go_ret
    exact ⟨hbb, by rw [HF.out, hg]; exact ⟨v9, rfl, RdS.more (fun b h => .inr (h.elim (fun h => ⟨h.1, Nat.lt_of_lt_of_le h.2 hs9⟩) (fun h => ⟨Nat.le_trans hb3.size h.1, h.2⟩))) _ _ hv9⟩⟩
  | gone b why =>
    rw [hg] at hr9
    obtain rfl := hr9
    exact ⟨rfl, hbb, by rw [HF.out, hg]⟩
end Go.Proofs.YtbemeapjeipjlaaGreatDoor
/- A region that draws its order: loads and moves that no other operation of it can touch are taken first, wherever they stand; behind them the rest, one after the other. -/
namespace Go.Proofs.YtbemeapjeipjlaaGreatDoor
open Go Go.RowKit
def seqIB (md : Region.Mode) (ops : Array Oper) : List Nat → Array Bool → Bool
  | [], listed => (Region.ready md ops listed).isEmpty
  | i :: r, listed => decide (Region.ready md ops listed = [i]) && seqIB md ops r (listed.setIfInBounds i true)
def headIB (md : Region.Mode) (ops : Array Oper) (t : List Nat) : List Nat → Array Bool → Bool
  | [], listed => seqIB md ops t listed
  | i :: r, listed => (Region.ready md ops listed).contains i && Region.free md ops listed i && headIB md ops t r (listed.setIfInBounds i true)
def pickI (l : List Oper) : List Nat → List Oper
  | [] => []
  | i :: r => match l[i]? with
    | some o => o :: pickI l r
    | none => []
section
variable {P : Program} {l : List Oper} {md : Region.Mode} {S : World → Prop} {Q : Exit → Act → World → Prop}
theorem seqS_anyI : ∀ (is : List Nat) (listed : Array Bool) (a : Act) (w : World), (∀ i ∈ is, i < l.length) → seqIB md l.toArray is listed = true → seqS P l.toArray S Q (pickI l is) a w → wpAnyH P md l.toArray Q S is.length listed a w
  | [], _, _, _, _, hB, h => ⟨by simpa [seqIB] using hB, h⟩
  | k :: r, listed, a, w, hl, hB, h => by
    have hk : k < l.length := hl k (by simp)
    have h0 : l.toArray[k]? = some l[k] := by simp [hk]
    have hp : pickI l (k :: r) = l[k] :: pickI l r := by rw [pickI, List.getElem?_eq_getElem hk]
    rw [hp] at h
    simp only [seqIB, Bool.and_eq_true, decide_eq_true_eq] at hB
    refine wpAnyH_all hB.1 (by simp) fun i hi => ?_
    obtain rfl : i = k := by simpa using hi
    have R := fun a' w' (h' : seqS P l.toArray S Q (pickI l r) a' w') => seqS_anyI r (listed.setIfInBounds i true) a' w' (fun j hj => hl j (by simp [hj])) hB.2 h'
    unfold wpOp
    simp only [h0]
    unfold seqS at h
    split
    · rename_i hw
      rw [if_pos hw] at h
      exact .inl (Oper.wp_mono (fun a' w' h' => ⟨h'.1, R _ _ h'.2⟩) h)
    · rename_i hw
      rw [if_neg hw] at h
      exact ⟨h.1, R _ _ h.2⟩
theorem held_lexI {t : List Nat} {L : Act → Prop} (hsel : Region.noSelect l.toArray = true) (hQ : ∀ c a w d v, Q (.panic c) (a.put d v) w → Q (.panic c) a w) {w : World} (hS : S w) :
    ∀ (is : List Nat) (listed : Array Bool) (a : Act), (∀ i ∈ is, i < l.length) → headIB md l.toArray t is listed = true → hdS P l.toArray S L (pickI l is) a →
    (∀ ls a', seqIB md l.toArray t ls = true → L a' → wpAnyH P md l.toArray Q S t.length ls a' w) → wpAnyH P md l.toArray Q S (is.length + t.length) listed a w
  | [], listed, a, _, hB, h, hL => by simpa using hL listed a (by simpa [headIB] using hB) h
  | k :: r, listed, a, hl, hB, h, hL => by
    have hk : k < l.length := hl k (by simp)
    have h0 : l.toArray[k]? = some l[k] := by simp [hk]
    have hp : pickI l (k :: r) = l[k] :: pickI l r := by rw [pickI, List.getElem?_eq_getElem hk]
    rw [hp] at h
    obtain ⟨v, hy, h⟩ := h
    simp only [headIB, Bool.and_eq_true] at hB
    obtain ⟨⟨hr, hf⟩, hB⟩ := hB
    rw [show (k :: r).length + t.length = (r.length + t.length) + 1 by simp; omega]
    exact wpAnyH_take h0 hsel hf hr (fun c a w => hQ c a w _ _) hy hS
      (held_lexI hsel hQ hS r _ _ (fun j hj => hl j (by simp [hj])) hB h hL)
def heldIB (ops : Array Oper) (hs ts : List Nat) : Bool := Region.noSelect ops && decide (hs.length + ts.length = ops.size) && (hs.all fun i => decide (i < ops.size)) && (ts.all fun i => decide (i < ops.size)) && headIB .any ops ts hs (Array.replicate ops.size false)
theorem wp_region_heldI {id : Nat} {a : Act} {w : World} (S : World → Prop) (hs ts : List Nat) (hm : P.follows .mixedOrders = true) (hB : heldIB l.toArray hs ts = true) (hQ1 : ∀ c (a : Act) w (i : Nat) v, Q (.panic c) (a.put (some i) v) w → Q (.panic c) a w) (hS : S w.drew)
    (h : HdS P l.toArray S (fun a' => SeqS P l.toArray S Q (pickI l ts) a' w.drew) (pickI l hs) a) : (Code.region id l.toArray true).wp P Q a w := by
  have hQ : ∀ c (a : Act) w d v, Q (.panic c) (a.put d v) w → Q (.panic c) a w := by
    intro c a w d v h
    cases d with
    | none => exact h
    | some i => exact hQ1 c a w i v h
  simp only [heldIB, Bool.and_eq_true, decide_eq_true_eq, List.all_eq_true, List.size_toArray] at hB
  obtain ⟨⟨⟨⟨hsel, hn⟩, hh⟩, ht⟩, hlex⟩ := hB
  refine wp_region_held (S := S) hm ?_
  have := held_lexI (md := .any) (t := ts) hsel hQ (w := w.drew) hS hs (Array.replicate l.length false) a hh hlex h.out
    (fun ls a' h1 h2 => seqS_anyI ts ls a' w.drew ht h1 h2.out)
  rw [hn] at this
  simpa using this
end
end Go.Proofs.YtbemeapjeipjlaaGreatDoor
/- Walks: query.joined. -/
namespace Go.Proofs.YtbemeapjeipjlaaGreatDoor
open Go Go.RowKit
attribute [local go_sem] ta_no_bool ta_yes_bool ta_nil_bool ta_no_int64 ta_yes_int64 ta_nil_int64 ta_no_flt ta_yes_flt ta_nil_flt ta_no_str ta_yes_str ta_nil_str ta_no_byt ta_yes_byt ta_nil_byt ta_no_ref ta_yes_ref ta_nil_ref ta_no_lst ta_yes_lst ta_nil_lst ta_no_dct ta_yes_dct ta_nil_dct ta_no_rec ta_yes_rec ta_nil_rec
def ListS (w : World) (S : Nat → Prop) (A : Option Addr) (l : List V) : Prop := l = [] ∨ ∃ b off, A = some ⟨b, off, none⟩ ∧ S b ∧ RdL w S b off l
theorem ListS.to {w W : World} {S : Nat → Prop} {A : Option Addr} {l : List V} (h : ListS w S A l) (hS : ∀ b, S b → b < w.heap.size) (hb : Below w.heap.size w W) : ListS W S A l := by
  refine h.imp id ?_
  rintro ⟨b, off, hA, hsb, hr⟩
  refine ⟨b, off, hA, hsb, RdL.iff.2 fun i x hi => ?_⟩
  obtain ⟨v, hv, hd⟩ := RdL.iff.1 hr i x hi
  exact ⟨v, (hb.cell (hS b hsb)).trans hv, hd.to hS hb⟩
set_option maxRecDepth 100000 in
set_option maxHeartbeats 1000000 in
theorem joined_list (op : ByteArray) (a : Int) (p : Value) (nm : ByteArray) (y : List Value) (hy : Eleven y) (hp : p.oneCell' = true) (x z : List V) (A1 A2 : Option Addr) (c1 c2 : Nat) (S : Nat → Prop) (w : World) (hS : ∀ b, S b → b < w.heap.size) (hx : x.length ≤ 16384) (hz : z.length ≤ 16384) (h1 : A1 = none → c1 = 0) (h2 : A2 = none → c2 = 0) (r1 : ListS w S A1 x) (r2 : ListS w S A2 z) :
    Calls Tryz.prog 103 #[eV op a p nm y, .iface 73 (.slice A1 x.length c1), .iface 73 (.slice A2 z.length c2)] w (OutPost S (joinedV a (.list x) (.list z)) w) := by
  obtain ⟨i0, hi0, hz0, hz1, hz2⟩ := info_parts Tryz.infoAny
  have HG := Lib.hid (fun (W : World) (hW : Below w.heap.size w W) (u : Value) (hr : RdS W (fun b => S b ∨ (w.heap.size ≤ b ∧ b < W.heap.size)) (.list (x ++ z)) (.iface 73 u)) => good_any op a p nm y hy hp (.list (x ++ z)) (.iface 73 u) (fun b => S b ∨ (w.heap.size ≤ b ∧ b < W.heap.size)) W (fun b h => h.elim (fun h => Nat.lt_of_lt_of_le (hS b h) hW.size) (fun h => h.2)) hr)
  have HC := Lib.hid (fun (W : World) (hW : Below w.heap.size w W) => clone_any x A1 c1 S W (fun b h => Nat.lt_of_lt_of_le (hS b h) hW.size) (by omega) h1 (r1.to hS hW))
  have HF : Hid (joinedV a (.list x) (.list z) = goodV a (.list (x ++ z))) := Lib.hid rfl
  have HY := Lib.hid (list_face r2 h2)
  clear r1 r2
  have HBad := Lib.hid (fun (W : World) => bad_any op a p nm y hy hp W)
  obtain ⟨n0, n1, n2, n3, n4, n5, n6, n7, n8, n9, n10, rfl, hone⟩ := hy
  clear hone
  unfold eV at *
  have HB : Hid (Below w.heap.size w (w.alloc (.cells #[.string op, .int .i64 a, p, .string nm, n0, n1, n2, n3, n4, n5, n6, n7, n8, n9, n10] 32))) := Lib.hid ((Below.refl _ _).alloc (Nat.le_refl _) _)
  go_enter Tryz.func103, Tryz.ntmps103
  go_wp2
  refine wp_region_heldI (fun W => Below (w.heap.size + 1) (w.alloc (.cells #[.string op, .int .i64 a, p, .string nm, n0, n1, n2, n3, n4, n5, n6, n7, n8, n9, n10] 32)) W) [0, 1, 3] [2, 4, 5, 6, 7] (by kernel_rfl) (by kernel_rfl) (fun _ _ _ _ _ h => h) ?_ ?_
  · ((exact below_drewN (Below.refl _ _) 1))
  simp only [pickI, List.getElem?_cons_succ, List.getElem?_cons_zero]
  repeat (refine HdS.step (fun K hK => ?_); go_simp; first | (refine hK _ ?_; clear hK K) | (apply Exists.intro; refine ⟨fun W hW => ?_, hK _ ?_⟩; (first | (intros; rfl) | ((obtain ⟨hc, hf⟩ := bcellB hW; go_simp; rfl))); clear hK K))
  refine HdS.nil ?_
  refine SeqS.step (fun K hK => ?_)
  go_simp
  go_at_call 137
  refine (HC.out _ HB.out.drew).mono ?_
  rintro e w1 ⟨u, xs, rfl, hown, hv, hb1⟩
  have hb2 : Below (w.heap.size + 1) (w.alloc (.cells #[.string op, .int .i64 a, p, .string nm, n0, n1, n2, n3, n4, n5, n6, n7, n8, n9, n10] 32)) w1 := (below_drewN (Below.refl _ _) 1).trans (hb1.mono (by simp))
  have hb3 := HB.out.trans (hb2.mono (by omega))
  have hz3 := hb2.size
  simp at hz3
  refine hK _ _ hb2 ?_
  clear hK K
  obtain ⟨ys, hy1, hy2⟩ := HY.out
  have hyk := hy1.keep (fun p hp => hb3.cell (hS _ hp))
  have hlx := hv.1
  have hly := hy1.1
  rcases hy2 with ⟨rfl, rfl, rfl⟩ | ⟨ad, rfl, hnw⟩
  · refine SeqS.plain rfl (fun K hK => ?_)
    have hys : ys = [] := List.eq_nil_of_length_eq_zero hly
    subst hys
    have hr := run_append_owned_none (P := Tryz.prog) (w := w1) _ 73 73 20 i0 1 Tryz.underlying73 hi0 u x.length xs hown
    refine Lib.wp_append_run _ _ _ _ _ rfl _ _ rfl rfl _ _ hr ?_
    have hb4 := hb2
    have hb5 := HB.out.trans (hb4.mono (by omega))
    have hz4 := hb5.size
    have hrd := own_read (S := S) (l := x ++ []) (by rw [List.length_append]; exact (by simpa using hown)) (hv.join hyk) (fun b h => Nat.lt_of_lt_of_le (hS b h) (by simp)) (by have := hb4.size; simp at this ⊢; omega) (by simp; omega)
    refine hK _ _ hb4 ?_
    clear hK K
    refine SeqS.step (fun K hK => ?_)
    go_simp
    refine hK _ _ hb4 ?_
    clear hK K
    refine SeqS.step (fun K hK => ?_)
    go_simp
    go_at_call 65
    refine (HG.out _ hb5 _ (RdS.more (fun b h => h.imp id (fun h => ⟨by have := h.1; first | omega | (simp at this; omega), h.2⟩)) _ _ hrd)).mono ?_
    rintro e w9 ⟨hb9, hr9⟩
    have hbb := below_then hb5 (Nat.le_refl _) hb9
    have hs9 := hb9.size
    have hb6 := hb4.trans (hb9.mono (by have := hb4.size; simp at this; omega))
    cases hg : goodV a (.list (x ++ [])) with
    | val t =>
      rw [hg] at hr9
      obtain ⟨v9, rfl, hv9⟩ := hr9
      refine hK _ _ hb6 ?_
      clear hK K
      refine SeqS.step (fun K hK => ?_)
      go_simp
      refine hK _ _ hb6 ?_
      clear hK K
      refine SeqS.nil ?_
      go_wp2
      go_ret
      exact ⟨hbb, by rw [HF.out, hg]; exact ⟨v9, rfl, RdS.more (fun b h => h.elim (fun h => h.elim .inl (fun h => .inr ⟨h.1, Nat.lt_of_lt_of_le h.2 hs9⟩)) (fun h => .inr ⟨Nat.le_trans hb5.size h.1, h.2⟩)) _ _ hv9⟩⟩
    | gone b why =>
      rw [hg] at hr9
      obtain rfl := hr9
      exact ⟨rfl, hbb, by rw [HF.out, hg]⟩
  · refine SeqS.plain rfl (fun K hK => ?_)
    have hnw1 : ∀ j t, ys[j]? = some t → w1.cell? (ad.add j) = some t := fun j t hj => (hb3.cell (World.block_lt_of_cell? w (ad.add j) (hnw j t hj))).trans (hnw j t hj)
    refine wp_append_own _ _ _ 73 rfl _ 20 i0 _ 1 16 Tryz.underlying73 hi0 hz0 hz1 hz2 rfl (by omega) u x.length xs rfl hown ad z.length c2 ys rfl (by omega) hnw1 hy1.one (by simp only [maxLen]; omega) (by omega) (by simp; omega) ?_
    intro v' w2 hown2 hg2 hnil
    have hb4 := hb2.grown hg2 (by omega) (fun j hj => by have := (hown.lt j hj).1; simp at this; omega)
    have hb5 := HB.out.trans (hb4.mono (by omega))
    have hz4 := hb5.size
    have hrd := own_read (S := S) (l := x ++ z) (by rw [List.length_append]; exact hown2) ((hv.join hyk).keep (fun p hp => World.cell?_of_block (hg2.block p.block (Nat.lt_of_lt_of_le (hS _ hp) hb3.size) (fun e => by have := (hown.lt _ e.symm).1; have := hS _ hp; simp at *; omega)))) (fun b h => Nat.lt_of_lt_of_le (hS b h) (by simp)) (by have := hb4.size; simp at this ⊢; omega) (by simp; omega)
    refine hK _ _ hb4 ?_
    clear hK K
    refine SeqS.step (fun K hK => ?_)
    go_simp
    refine hK _ _ hb4 ?_
    clear hK K
    refine SeqS.step (fun K hK => ?_)
    go_simp
    go_at_call 65
    refine (HG.out _ hb5 _ (RdS.more (fun b h => h.imp id (fun h => ⟨by have := h.1; first | omega | (simp at this; omega), h.2⟩)) _ _ hrd)).mono ?_
    rintro e w9 ⟨hb9, hr9⟩
    have hbb := below_then hb5 (Nat.le_refl _) hb9
    have hs9 := hb9.size
    have hb6 := hb4.trans (hb9.mono (by have := hb4.size; simp at this; omega))
    cases hg : goodV a (.list (x ++ z)) with
    | val t =>
      rw [hg] at hr9
      obtain ⟨v9, rfl, hv9⟩ := hr9
      refine hK _ _ hb6 ?_
      clear hK K
      refine SeqS.step (fun K hK => ?_)
      go_simp
      refine hK _ _ hb6 ?_
      clear hK K
      refine SeqS.nil ?_
      go_wp2
      go_ret
      exact ⟨hbb, by rw [HF.out, hg]; exact ⟨v9, rfl, RdS.more (fun b h => h.elim (fun h => h.elim .inl (fun h => .inr ⟨h.1, Nat.lt_of_lt_of_le h.2 hs9⟩)) (fun h => .inr ⟨Nat.le_trans hb5.size h.1, h.2⟩)) _ _ hv9⟩⟩
    | gone b why =>
      rw [hg] at hr9
      obtain rfl := hr9
      exact ⟨rfl, hbb, by rw [HF.out, hg]⟩
end Go.Proofs.YtbemeapjeipjlaaGreatDoor
