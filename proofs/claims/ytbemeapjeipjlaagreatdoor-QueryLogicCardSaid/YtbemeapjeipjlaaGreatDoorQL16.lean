/- Walks: query.good, fields, under, field. -/
import Derived.Test.YtbemeapjeipjlaaGreatDoorQL15
set_option linter.unusedVariables false
set_option linter.unusedSimpArgs false
namespace Go.Proofs.YtbemeapjeipjlaaGreatDoor
open Go Go.RowKit
attribute [local go_sem] ta_no_bool ta_yes_bool ta_nil_bool ta_no_int64 ta_yes_int64 ta_nil_int64 ta_no_flt ta_yes_flt ta_nil_flt ta_no_str ta_yes_str ta_nil_str ta_no_byt ta_yes_byt ta_nil_byt ta_no_ref ta_yes_ref ta_nil_ref ta_no_lst ta_yes_lst ta_nil_lst ta_no_dct ta_yes_dct ta_nil_dct ta_no_rec ta_yes_rec ta_nil_rec
/- How a walk's step ends: by a value, in the given memory or in new one; or it gives up. -/
def OutPost (S : Nat → Prop) (r : Out) (w : World) (e : Ending) (w' : World) : Prop := Below w.heap.size w w' ∧ match r with
  | .val x => ∃ v, e = .returned v ∧ RdS w' (fun b => S b ∨ New w w' b) x v
  | .gone a why => e = .panicked [{ v := faultV a why, recovered := false }]
theorem RdS.to {w : World} {S : Nat → Prop} {x : V} {v : Value} (h : RdS w S x v) (hS : ∀ b, S b → b < w.heap.size) {w' : World} (hb : Below w.heap.size w w') : RdS w' S x v := RdS.belowS h hS hb
theorem RdS.toR {w : World} {S : Nat → Prop} {x : V} {v : Value} (h : RdS w S x v) (hS : ∀ b, S b → b < w.heap.size) {w' : World} (hb : Below w.heap.size w w') : Rd w' w'.heap.size x v := RdS.more (fun b h => Nat.lt_of_lt_of_le (hS b h) hb.size) _ _ (RdS.belowS h hS hb)
set_option maxRecDepth 100000 in
set_option maxHeartbeats 1000000 in
theorem good_any (op : ByteArray) (a : Int) (p : Value) (nm : ByteArray) (y : List Value) (hy : Eleven y) (hp : p.oneCell' = true) (x : V) (v : Value) (S : Nat → Prop) (w : World) (hS : ∀ b, S b → b < w.heap.size) (h : RdS w S x v) :
    Calls Tryz.prog 65 #[eV op a p nm y, v] w (OutPost S (goodV a x) w) := by
  obtain ⟨n0, n1, n2, n3, n4, n5, n6, n7, n8, n9, n10, rfl, h1⟩ := hy
  clear h1
  have HC : Hid (∀ W, Below w.heap.size w W → Calls Tryz.prog 41 #[v] W (fun e w' => e = .returned (.tuple #[.int .i64 (checkV x).1, .int .i64 (checkV x).2]) ∧ Below W.heap.size W w')) := Lib.hid (fun W hW => check_out x v W (h.toR hS hW))
  have HB : Hid (Below w.heap.size w (w.alloc (.cells #[.string op, .int .i64 a, p, .string nm, n0, n1, n2, n3, n4, n5, n6, n7, n8, n9, n10] 32))) := Lib.hid ((Below.refl _ _).alloc (Nat.le_refl _) _)
  by_cases hz : (checkV x).2 = 0
  · have HF : Hid (goodV a x = .val x) := Lib.hid (by unfold goodV; rw [if_pos hz])
    rw [hz] at HC
    have HR := Lib.hid (fun (W : World) (hW : Below w.heap.size w W) => h.to hS hW)
    clear h hz
    unfold eV
    go_enter Tryz.func65, Tryz.ntmps65
    go_wp2_with fail
    refine (HC.out _ HB.out).mono ?_
    rintro e w1 ⟨rfl, hb1⟩
    have hb2 := HB.out.trans (hb1.mono (by simp))
    go_wp2
    go_ret
    exact ⟨hb2, by rw [HF.out]; exact ⟨_, rfl, RdS.more (fun b h => .inl h) _ _ (HR.out _ hb2)⟩⟩
  · have HF : Hid (goodV a x = .gone a (checkV x).2) := Lib.hid (by unfold goodV; rw [if_neg hz])
    generalize checkV x = ck at *
    have hq : ((ck.2 : Int) != 0) = true := by rw [bne_iff_ne]; omega
    clear h hz
    unfold eV
    go_enter Tryz.func65, Tryz.ntmps65
    go_wp2_with fail
    refine (HC.out _ HB.out).mono ?_
    rintro e w1 ⟨rfl, hb1⟩
    have q1 : w1.cell? ⟨w.heap.size, 1, none⟩ = some (.int .i64 a) := (hb1.cell (p := ⟨w.heap.size, 1, none⟩) (by simp)).trans (by simp [go_sem])
    have hb2 := HB.out.trans (hb1.mono (by simp))
    go_wp2
    exact ⟨rfl, hb2, by rw [HF.out]; rfl⟩
/- The fields of a value. -/
def FieldsPost (S : Nat → Prop) (x : V) (w : World) (e : Ending) (w' : World) : Prop := w = w' ∧ match fieldsOf x with
  | none => e = .returned (.tuple #[.slice none 0 0, .bool false])
  | some l => ∃ A c, e = .returned (.tuple #[.slice A l.length c, .bool true]) ∧ l.length ≤ 1099511627776 ∧ DictS w S A l
set_option maxRecDepth 100000 in
set_option maxHeartbeats 1000000 in
theorem qfields_any (x : V) (v : Value) (S : Nat → Prop) (w : World) (hk : kindV x ≠ 11) (h : RdS w S x v) :
    Calls Tryz.prog 90 #[v] w (FieldsPost S x w) := by
  by_cases h9 : kindV x = 9
  · obtain ⟨l, rfl⟩ := kind_is_dict h9
    obtain ⟨A, c, rfl, hl, hD⟩ := h
    clear hk h9
    go_enter Tryz.func90, Tryz.ntmps90
    go_wp2
    go_ret2
    exact ⟨rfl, _, _, rfl, hl, hD⟩
  by_cases h10 : kindV x = 10
  · obtain ⟨c, ver, l, rfl⟩ := kind_is_record h10
    obtain ⟨b, rfl, hb, hcs, q0, q1, hv1, hv2, A, cc, q2, hl, hD⟩ := h
    clear hk h9 h10
    go_enter Tryz.func90, Tryz.ntmps90
    go_wp2
    go_ret2
    exact ⟨rfl, _, _, rfl, hl, hD⟩
  · have HF : Hid (fieldsOf x = none) := Lib.hid (by cases x <;> first | rfl | exact absurd rfl h9 | exact absurd rfl h10)
    have k0 := not_dict h 20 w h9
    have k1 := not_record h 20 w h10 hk
    clear h
    go_enter Tryz.func90, Tryz.ntmps90
    go_wp2
    go_ret2
    exact ⟨rfl, by rw [HF.out]; rfl⟩
theorem underV_skip {l : List (ByteArray × V)} {k : Nat} {p : ByteArray × V} {s : ByteArray} (hp : l[k]? = some p) (h : (p.1.toList == s.toList) = false) : underV (l.drop k) s = underV (l.drop (k + 1)) s := by
  obtain ⟨h1, e1⟩ := List.getElem?_eq_some_iff.1 hp
  rw [List.drop_eq_getElem_cons h1, e1]; obtain ⟨n, x⟩ := p; rw [underV, if_neg (by rw [h]; simp)]
theorem underV_hit {l : List (ByteArray × V)} {k : Nat} {p : ByteArray × V} {s : ByteArray} (hp : l[k]? = some p) (h : (p.1.toList == s.toList) = true) : underV (l.drop k) s = some p.2 := by
  obtain ⟨h1, e1⟩ := List.getElem?_eq_some_iff.1 hp
  rw [List.drop_eq_getElem_cons h1, e1]; obtain ⟨n, x⟩ := p; rw [underV, if_pos h]
theorem DictS.get {w : World} {S : Nat → Prop} {A : Option Addr} {l : List (ByteArray × V)} (h : DictS w S A l) {k : Nat} {p : ByteArray × V} (hx : l[k]? = some p) :
    ∃ b off v, A = some ⟨b, off, none⟩ ∧ S b ∧ w.cell? ⟨b, off + k * 2, none⟩ = some (.string p.1) ∧ p.1.size ≤ 140737488351232 ∧ w.cell? ⟨b, off + k * 2 + 1, none⟩ = some v ∧ RdS w S p.2 v := by
  rcases h with h | ⟨b, off, h1, h2, h3⟩
  · subst h; cases hx
  · obtain ⟨h4, h5, v, hv, hr⟩ := RdD.iff.1 h3 k p hx
    exact ⟨b, off, v, h1, h2, h4, h5, hv, hr⟩
def UnderPost (S : Nat → Prop) (r : Option V) (w : World) (e : Ending) (w' : World) : Prop := Below w.heap.size w w' ∧ match r with
  | none => e = .returned (.tuple #[.nilIface, .bool false])
  | some x => ∃ v, e = .returned (.tuple #[v, .bool true]) ∧ RdS w' S x v
set_option maxRecDepth 100000 in
set_option maxHeartbeats 1000000 in
theorem under_any (l : List (ByteArray × V)) (A : Option Addr) (c : Nat) (s : ByteArray) (S : Nat → Prop) (w : World) (hS : ∀ b, S b → b < w.heap.size) (hl : l.length ≤ 1099511627776) (hD : DictS w S A l) :
    Calls Tryz.prog 91 #[.slice A l.length c, .string s] w (UnderPost S (underV l s) w) := by
  go_enter Tryz.func91, Tryz.ntmps91
  go_wp2
  go_loopw [10] (fun i wr => ∃ k : Nat, i = .int .i64 k ∧ k ≤ l.length ∧ Hid (underV l s = underV (l.drop k) s) ∧ Below w.heap.size w wr) (fun i _ => l.length - (intOf i).toNat)
  case atStart => exact ⟨0, rfl, by omega, Lib.hid rfl, Below.refl _ _⟩
  case round =>
    obtain ⟨k, rfl, hk, HT, hb⟩ := hrel
    have hz := hb.size
    by_cases hlt : k < l.length
    · obtain ⟨p, hp⟩ : ∃ p, l[k]? = some p := ⟨_, List.getElem?_eq_getElem hlt⟩
      obtain ⟨b, off, v, rfl, hSb, c0, hps, c1, hv⟩ := hD.get hp
      have hlb := hS b hSb
      have d0 := (hb.cell (p := ⟨b, off + k * 2, none⟩) hlb).trans c0
      have d1 := (hb.cell (p := ⟨b, off + k * 2 + 1, none⟩) hlb).trans c1
      have hst := fun (W : World) (a : Addr) (m : Mode) => run_store Tryz.prog W a v m hv.one
      have hb2 : Below w.heap.size w (wr.alloc (.cells #[.string p.1, v] 44)) := hb.alloc hz _
      have HV := Lib.hid (hv.to hS hb2)
      cases hq : (p.1.toList == s.toList)
      · have HU := Lib.hid (HT.out.trans (underV_skip hp hq))
        clear hD hp hv HT c0 c1
        go_wp2
        refine ⟨⟨k + 1, rfl, hlt, HU, hb2⟩, ?_⟩
        simp [intOf]; omega
      · have HU := Lib.hid (HT.out.trans (underV_hit hp hq))
        clear hD hp hv HT c0 c1
        go_wp2
        go_ret2
        exact ⟨hb2, by rw [HU.out]; exact ⟨v, rfl, HV.out⟩⟩
    · obtain rfl : k = l.length := by omega
      have HU : Hid (underV l s = none) := Lib.hid (HT.out.trans (by rw [List.drop_length]; rfl))
      clear hD HT
      go_wp2
      go_ret2
      exact ⟨hb, by rw [HU.out]; rfl⟩
set_option maxRecDepth 100000 in
set_option maxHeartbeats 1000000 in
theorem field_any (op : ByteArray) (a : Int) (p : Value) (nm : ByteArray) (y : List Value) (hy : Eleven y) (hp : p.oneCell' = true) (x : V) (v : Value) (s : ByteArray) (S : Nat → Prop) (w : World) (hS : ∀ b, S b → b < w.heap.size) (hk : kindV x ≠ 11) (h : RdS w S x v) :
    Calls Tryz.prog 59 #[eV op a p nm y, v, .string s] w (OutPost S (fieldV a x s) w) := by
  have HBad := Lib.hid (fun (W : World) => bad_any op a p nm y hy hp W)
  obtain ⟨n0, n1, n2, n3, n4, n5, n6, n7, n8, n9, n10, rfl, h1⟩ := hy
  clear h1
  unfold eV at *
  have HB : Hid (Below w.heap.size w (w.alloc (.cells #[.string op, .int .i64 a, p, .string nm, n0, n1, n2, n3, n4, n5, n6, n7, n8, n9, n10] 32))) := Lib.hid ((Below.refl _ _).alloc (Nat.le_refl _) _)
  have HFd := Lib.hid (qfields_any x v S _ hk (h.to hS HB.out))
  cases hf : fieldsOf x with
  | none =>
    have HF : Hid (fieldV a x s = .gone a 172) := Lib.hid (by unfold fieldV; rw [hf])
    unfold FieldsPost at HFd
    rw [hf] at HFd
    clear hf h
    go_enter Tryz.func59, Tryz.ntmps59
    go_wp2_with fail
    refine HFd.out.mono ?_
    rintro e w1 ⟨rfl, rfl⟩
    go_wp2_with fail
    refine (HBad.out _).mono ?_
    rintro e w1 ⟨rfl, hb1⟩
    exact ⟨rfl, HB.out.trans (hb1.mono (by simp)), by rw [HF.out]⟩
  | some l =>
    have HF : Hid (fieldV a x s = .val ((underV l s).getD .nil)) := Lib.hid (by unfold fieldV; rw [hf])
    unfold FieldsPost at HFd
    rw [hf] at HFd
    clear hf h
    have HU := Lib.hid (fun (A : Option Addr) (c : Nat) (hl : l.length ≤ 1099511627776) hD => under_any l A c s S (w.alloc (.cells #[.string op, .int .i64 a, p, .string nm, n0, n1, n2, n3, n4, n5, n6, n7, n8, n9, n10] 32)) (fun b h => Nat.lt_of_lt_of_le (hS b h) HB.out.size) hl hD)
    unfold UnderPost at HU
    go_enter Tryz.func59, Tryz.ntmps59
    go_wp2_with fail
    refine HFd.out.mono ?_
    rintro e w1 ⟨rfl, A, c, rfl, hl, hD⟩
    cases hu : underV l s with
    | none =>
      rw [hu] at HU HF
      clear hu
      go_wp2_with fail
      refine (HU.out A c hl hD).mono ?_
      rintro e w2 ⟨hb1, rfl⟩
      go_wp2
      go_ret
      exact ⟨HB.out.trans (hb1.mono (by simp)), by rw [HF.out]; exact ⟨_, rfl, rfl⟩⟩
    | some z =>
      rw [hu] at HU HF
      clear hu
      go_wp2_with fail
      refine (HU.out A c hl hD).mono ?_
      rintro e w2 ⟨hb1, u, rfl, hr⟩
      go_wp2
      go_ret
      exact ⟨HB.out.trans (hb1.mono (by simp)), by rw [HF.out]; exact ⟨_, rfl, RdS.more (fun b h => .inl h) _ _ hr⟩⟩
end Go.Proofs.YtbemeapjeipjlaaGreatDoor
/- An asking's frame: all but the count stays; walks: slices.Index, query.turns. -/
namespace Go.Proofs.YtbemeapjeipjlaaGreatDoor
open Go Go.RowKit
attribute [local go_sem] ta_no_bool ta_yes_bool ta_nil_bool ta_no_int64 ta_yes_int64 ta_nil_int64 ta_no_flt ta_yes_flt ta_nil_flt ta_no_str ta_yes_str ta_nil_str ta_no_byt ta_yes_byt ta_nil_byt ta_no_ref ta_yes_ref ta_nil_ref ta_no_lst ta_yes_lst ta_nil_lst ta_no_dct ta_yes_dct ta_nil_dct ta_no_rec ta_yes_rec ta_nil_rec
/- All memory but one block is as it was. -/
structure Aside (bw : Nat) (w w' : World) : Prop where
  os : w'.os = w.os
  tape : w'.tape = w.tape
  output : w'.output = w.output
  size : w.heap.size ≤ w'.heap.size
  block : ∀ k, k < w.heap.size → k ≠ bw → w'.heap[k]? = w.heap[k]?
theorem Aside.refl (bw : Nat) (w : World) : Aside bw w w := ⟨rfl, rfl, rfl, Nat.le_refl _, fun _ _ _ => rfl⟩
theorem Aside.trans {bw : Nat} {a b c : World} (h : Aside bw a b) (k : Aside bw b c) : Aside bw a c :=
  ⟨k.os.trans h.os, k.tape.trans h.tape, k.output.trans h.output, Nat.le_trans h.size k.size, fun i hi hn => (k.block i (Nat.lt_of_lt_of_le hi h.size) hn).trans (h.block i hi hn)⟩
theorem Aside.of_below {bw : Nat} {w w' : World} (h : Below w.heap.size w w') : Aside bw w w' := ⟨h.os, h.tape, h.output, h.size, fun k hk _ => h.block k hk⟩
theorem Aside.cell {bw : Nat} {w w' : World} (h : Aside bw w w') {p : Addr} (hp : p.block < w.heap.size) (hn : p.block ≠ bw) : w'.cell? p = w.cell? p := World.cell?_of_block (w := w) (h.block p.block hp hn)
theorem Aside.frozen {bw : Nat} {w w' : World} (h : Aside bw w w') {p : Addr} (hp : p.block < w.heap.size) (hn : p.block ≠ bw) : w'.frozen? p = w.frozen? p := World.frozen?_of_block (w := w) (h.block p.block hp hn)
theorem Aside.drew {bw : Nat} {a w : World} (h : Aside bw a w) : Aside bw a w.drew := ⟨h.os, h.tape, h.output, h.size, h.block⟩
theorem Aside.set {bw : Nat} {w : World} (o : Nat) (u : Value) : Aside bw w (w.setCell ⟨bw, o, none⟩ u) := by
  have hb : Below bw w (w.setCell ⟨bw, o, none⟩ u) := (Below.refl bw w).setCell (p := ⟨bw, o, none⟩) (Nat.le_refl _) u
  refine ⟨hb.os, hb.tape, hb.output, hb.size, fun k _ hn => Below.heap_setCell w ⟨bw, o, none⟩ u k hn⟩
/- Memory that an asking may read: apart from the count. -/
def Seen (S : Nat → Prop) (w : World) (bw : Nat) : Prop := ∀ b, S b → b < w.heap.size ∧ b ≠ bw
theorem Seen.lt {S : Nat → Prop} {w : World} {bw : Nat} (h : Seen S w bw) : ∀ b, S b → b < w.heap.size := fun b hb => (h b hb).1
theorem Seen.to {S : Nat → Prop} {w w' : World} {bw : Nat} (h : Seen S w bw) (ha : w.heap.size ≤ w'.heap.size) : Seen S w' bw := fun b hb => ⟨Nat.lt_of_lt_of_le (h b hb).1 ha, (h b hb).2⟩
theorem Seen.more {S : Nat → Prop} {w w' : World} {bw : Nat} (h : Seen S w bw) (hb : bw < w.heap.size) (ha : w.heap.size ≤ w'.heap.size) : Seen (fun b => S b ∨ New w w' b) w' bw := fun b hb' => hb'.elim (fun h' => (h.to ha) b h') (fun h' => ⟨h'.2, by have := h'.1; omega⟩)
theorem RdS.aside {w w' : World} {S : Nat → Prop} {bw : Nat} {x : V} {v : Value} (h : RdS w S x v) (hS : Seen S w bw) (ha : Aside bw w w') : RdS w' S x v := RdS.keep (fun _ hp => ha.cell (hS _ hp).1 (hS _ hp).2) x v h
theorem RdES.aside {w w' : World} {S : Nat → Prop} {bw : Nat} {x : Ex} {v : List Value} (h : RdES w S x v) (hS : Seen S w bw) (ha : Aside bw w w') : RdES w' S x v := RdES.keep (fun _ hp => ha.cell (hS _ hp).1 (hS _ hp).2) x v h
/- The count. -/
theorem Hold.below {w w' : World} {bw k : Nat} {v : Value} (h : Hold w bw k v) (hb : Below w.heap.size w w') (hl : bw < w.heap.size) : Hold w' bw k v := ⟨(hb.cell (p := ⟨bw, k, none⟩) hl).trans h.1, (hb.frozen (p := ⟨bw, k, none⟩) hl).trans h.2⟩
/- The words of the kinds, as the program keeps them. -/
def Words (w : World) (S : Nat → Prop) (g : Nat) (l : List ByteArray) : Prop := S g ∧ ∃ b off c, S b ∧ w.cell? ⟨g, 0, none⟩ = some (.slice (some ⟨b, off, none⟩) l.length c) ∧ ∀ i s, l[i]? = some s → w.cell? ⟨b, off + i, none⟩ = some (.string s)
theorem Words.aside {w w' : World} {S : Nat → Prop} {bw g : Nat} {l : List ByteArray} (h : Words w S g l) (hS : Seen S w bw) (ha : Aside bw w w') : Words w' S g l := by
  obtain ⟨hg, b, off, c, hb, h1, h2⟩ := h
  exact ⟨hg, b, off, c, hb, (ha.cell (p := ⟨g, 0, none⟩) (hS g hg).1 (hS g hg).2).trans h1, fun i s hi => (ha.cell (p := ⟨b, off + i, none⟩) (hS b hb).1 (hS b hb).2).trans (h2 i s hi)⟩
theorem Words.more {w : World} {S S' : Nat → Prop} {g : Nat} {l : List ByteArray} (h : Words w S g l) (hS : ∀ b, S b → S' b) : Words w S' g l := by
  obtain ⟨hg, b, off, c, hb, h1, h2⟩ := h
  exact ⟨hS _ hg, b, off, c, hS _ hb, h1, h2⟩
theorem idxW_bound (l : List ByteArray) (s : ByteArray) : ∀ k : Nat, -1 ≤ idxW l s k ∧ idxW l s k < k + l.length := by
  induction l with
  | nil => intro k; rw [idxW]; simp only [List.length_nil]; omega
  | cons x r ih =>
    intro k
    rw [idxW]
    have := ih (k + 1)
    simp only [List.length_cons]
    split <;> omega
set_option maxRecDepth 100000 in
set_option maxHeartbeats 1000000 in
theorem windex_any (l : List ByteArray) (b off c : Nat) (s : ByteArray) (w : World) (hl : l.length ≤ 1048576) (hc : ∀ i t, l[i]? = some t → w.cell? ⟨b, off + i, none⟩ = some (.string t)) :
    Calls Tryz.prog 63 #[.slice (some ⟨b, off, none⟩) l.length c, .string s] w (NumPost (idxW l s 0) w) := by
  go_enter Tryz.func63, Tryz.ntmps63
  go_wp2
  go_loopw [8] (fun i wr => ∃ k : Nat, i = .int .i64 k ∧ k ≤ l.length ∧ Hid (idxW l s 0 = idxW (l.drop k) s k) ∧ w = wr) (fun i _ => l.length - (intOf i).toNat)
  case atStart => exact ⟨0, rfl, by omega, Lib.hid rfl, rfl⟩
  case round =>
    obtain ⟨k, rfl, hk, HT, rfl⟩ := hrel
    by_cases hlt : k < l.length
    · obtain ⟨t, ht⟩ : ∃ t, l[k]? = some t := ⟨_, List.getElem?_eq_getElem hlt⟩
      have d0 := hc k t ht
      have HU : Hid (idxW l s 0 = if (s.toList == t.toList) = true then (k : Int) else idxW (l.drop (k + 1)) s (k + 1)) := Lib.hid (by
        rw [HT.out, List.drop_eq_getElem_cons hlt]
        rw [List.getElem?_eq_getElem hlt] at ht; injection ht with ht; rw [ht]; rfl)
      clear ht HT hc
      cases hq : (s.toList == t.toList)
      · have HU2 : Hid (idxW l s 0 = idxW (l.drop (k + 1)) s (k + 1)) := Lib.hid (by rw [HU.out, if_neg (by rw [hq]; simp)])
        clear HU
        go_wp2
        refine ⟨⟨k + 1, rfl, hlt, HU2, trivial⟩, ?_⟩
        simp [intOf]; omega
      · have HU2 : Hid (idxW l s 0 = (k : Int)) := Lib.hid (by rw [HU.out, if_pos hq])
        clear HU
        go_wp2
        go_ret
        exact ⟨ret_num HU2.out.symm, rfl⟩
    · obtain rfl : k = l.length := by omega
      have HU2 : Hid (idxW l s 0 = -1) := Lib.hid (by rw [HT.out, List.drop_length]; rfl)
      clear HT hc
      go_wp2
      go_ret
      exact ⟨ret_num HU2.out.symm, rfl⟩
set_option maxRecDepth 100000 in
set_option maxHeartbeats 1000000 in
theorem turns_gAny (w : World) : Calls Tryz.prog 94 #[.string gAny] w (fun e w' => e = .returned (.bool true) ∧ w = w') := by
  go_enter Tryz.func94, Tryz.ntmps94
  go_wp2
  go_ret
  exact ⟨rfl, rfl⟩
set_option maxRecDepth 100000 in
set_option maxHeartbeats 1000000 in
theorem turns_gAll (w : World) : Calls Tryz.prog 94 #[.string gAll] w (fun e w' => e = .returned (.bool true) ∧ w = w') := by
  go_enter Tryz.func94, Tryz.ntmps94
  go_wp2
  go_ret
  exact ⟨rfl, rfl⟩
set_option maxRecDepth 100000 in
set_option maxHeartbeats 1000000 in
theorem turns_gMap (w : World) : Calls Tryz.prog 94 #[.string gMap] w (fun e w' => e = .returned (.bool true) ∧ w = w') := by
  go_enter Tryz.func94, Tryz.ntmps94
  go_wp2
  go_ret
  exact ⟨rfl, rfl⟩
set_option maxRecDepth 100000 in
set_option maxHeartbeats 1000000 in
theorem turns_gPick (w : World) : Calls Tryz.prog 94 #[.string gPick] w (fun e w' => e = .returned (.bool true) ∧ w = w') := by
  go_enter Tryz.func94, Tryz.ntmps94
  go_wp2
  go_ret
  exact ⟨rfl, rfl⟩
set_option maxRecDepth 100000 in
set_option maxHeartbeats 1000000 in
theorem turns_gLen (w : World) : Calls Tryz.prog 94 #[.string gLen] w (fun e w' => e = .returned (.bool false) ∧ w = w') := by
  go_enter Tryz.func94, Tryz.ntmps94
  go_wp2
  go_ret
  exact ⟨rfl, rfl⟩
set_option maxRecDepth 100000 in
set_option maxHeartbeats 1000000 in
theorem turns_gKind (w : World) : Calls Tryz.prog 94 #[.string gKind] w (fun e w' => e = .returned (.bool false) ∧ w = w') := by
  go_enter Tryz.func94, Tryz.ntmps94
  go_wp2
  go_ret
  exact ⟨rfl, rfl⟩
set_option maxRecDepth 100000 in
set_option maxHeartbeats 1000000 in
theorem turns_gKeys (w : World) : Calls Tryz.prog 94 #[.string gKeys] w (fun e w' => e = .returned (.bool false) ∧ w = w') := by
  go_enter Tryz.func94, Tryz.ntmps94
  go_wp2
  go_ret
  exact ⟨rfl, rfl⟩
set_option maxRecDepth 100000 in
set_option maxHeartbeats 1000000 in
theorem turns_gFirst (w : World) : Calls Tryz.prog 94 #[.string gFirst] w (fun e w' => e = .returned (.bool false) ∧ w = w') := by
  go_enter Tryz.func94, Tryz.ntmps94
  go_wp2
  go_ret
  exact ⟨rfl, rfl⟩
set_option maxRecDepth 100000 in
set_option maxHeartbeats 1000000 in
theorem turns_gLast (w : World) : Calls Tryz.prog 94 #[.string gLast] w (fun e w' => e = .returned (.bool false) ∧ w = w') := by
  go_enter Tryz.func94, Tryz.ntmps94
  go_wp2
  go_ret
  exact ⟨rfl, rfl⟩
set_option maxRecDepth 100000 in
set_option maxHeartbeats 1000000 in
theorem turns_gSum (w : World) : Calls Tryz.prog 94 #[.string gSum] w (fun e w' => e = .returned (.bool false) ∧ w = w') := by
  go_enter Tryz.func94, Tryz.ntmps94
  go_wp2
  go_ret
  exact ⟨rfl, rfl⟩
set_option maxRecDepth 100000 in
set_option maxHeartbeats 1000000 in
theorem turns_gLeast (w : World) : Calls Tryz.prog 94 #[.string gLeast] w (fun e w' => e = .returned (.bool false) ∧ w = w') := by
  go_enter Tryz.func94, Tryz.ntmps94
  go_wp2
  go_ret
  exact ⟨rfl, rfl⟩
set_option maxRecDepth 100000 in
set_option maxHeartbeats 1000000 in
theorem turns_gMost (w : World) : Calls Tryz.prog 94 #[.string gMost] w (fun e w' => e = .returned (.bool false) ∧ w = w') := by
  go_enter Tryz.func94, Tryz.ntmps94
  go_wp2
  go_ret
  exact ⟨rfl, rfl⟩
set_option maxRecDepth 100000 in
set_option maxHeartbeats 1000000 in
theorem turns_gHas (w : World) : Calls Tryz.prog 94 #[.string gHas] w (fun e w' => e = .returned (.bool false) ∧ w = w') := by
  go_enter Tryz.func94, Tryz.ntmps94
  go_wp2
  go_ret
  exact ⟨rfl, rfl⟩
/- How an asking ends. -/
def AskPost (S : Nat → Prop) (bw : Nat) (r : Out × Nat) (w : World) (e : Ending) (w' : World) : Prop := Aside bw w w' ∧ Hold w' bw 0 (.int .i64 r.2) ∧ match r.1 with
  | .val x => ∃ v, e = .returned v ∧ RdS w' (fun b => S b ∨ New w w' b) x v
  | .gone a why => e = .panicked [{ v := faultV a why, recovered := false }]
end Go.Proofs.YtbemeapjeipjlaaGreatDoor
