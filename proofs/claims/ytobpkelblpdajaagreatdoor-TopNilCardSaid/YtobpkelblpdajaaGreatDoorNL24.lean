/- The order of values; walks: slices.Compare, slices.CompareFunc. -/
import Derived.Test.YtobpkelblpdajaaGreatDoorNL23
set_option linter.unusedVariables false
set_option linter.unusedSimpArgs false
set_option linter.unusedSectionVars false
namespace Go.Proofs.YtobpkelblpdajaaGreatDoor
open Go Go.RowKit
attribute [local go_sem] ta_no_bool ta_yes_bool ta_nil_bool ta_no_int64 ta_yes_int64 ta_nil_int64 ta_no_flt ta_yes_flt ta_nil_flt ta_no_str ta_yes_str ta_nil_str ta_no_byt ta_yes_byt ta_nil_byt ta_no_ref ta_yes_ref ta_nil_ref ta_no_lst ta_yes_lst ta_nil_lst ta_no_dct ta_yes_dct ta_nil_dct ta_no_rec ta_yes_rec ta_nil_rec
def thenI (a b : Int) : Int := if a = 0 then b else a
theorem thenI_zero {a b : Int} (h : a = 0) : thenI a b = b := by unfold thenI; rw [if_pos h]
theorem thenI_some {a b : Int} (h : a ≠ 0) : thenI a b = a := by unfold thenI; rw [if_neg h]
def ordB : List UInt8 → List UInt8 → Int
  | [], [] => 0
  | [], _ :: _ => -1
  | _ :: _, [] => 1
  | x :: r, y :: s => thenI (ordI x.toNat y.toNat) (ordB r s)
mutual
/- How two values stand to each other. -/
def ordV : V → V → Int
  | .bool a, .bool b => ordI (truthI a) (truthI b)
  | .int a, .int b => ordI a b
  | .flt a, .flt b => ordI (placeV a) (placeV b)
  | .text a, .text b => ordS a b
  | .bytes a, .bytes b => ordB a b
  | .ref a, .ref b => ordI a b
  | .list a, .list b => ordL a b
  | .dict a, .dict b => ordD a b
  | .record c v l, .record c' v' l' => thenI (ordS c c') (thenI (ordI v v') (ordD l l'))
  | a, b => ordI (kindV a) (kindV b)
def ordL : List V → List V → Int
  | [], [] => 0
  | [], _ :: _ => -1
  | _ :: _, [] => 1
  | x :: r, y :: s => thenI (ordV x y) (ordL r s)
def ordD : List (ByteArray × V) → List (ByteArray × V) → Int
  | [], [] => 0
  | [], _ :: _ => -1
  | _ :: _, [] => 1
  | (n, x) :: r, (m, y) :: s => thenI (thenI (ordS n m) (ordV x y)) (ordD r s)
end
theorem ordV_kinds {a b : V} (h : kindV a ≠ kindV b) : ordV a b = ordI (kindV a) (kindV b) := by
  cases a <;> cases b <;> first | rfl | (exact absurd rfl h)
def OrdPost (n : Int) (w : World) (e : Ending) (w' : World) : Prop := e = .returned (.int .i64 n) ∧ Below w.heap.size w w'
def OrderC (a : V) : Prop := ∀ (b : V) (va vb : Value) (w : World), fineV a → fineV b → Rd w w.heap.size a va → Rd w w.heap.size b vb → Calls Tryz.prog 50 #[va, vb] w (OrdPost (ordV a b) w)
theorem notNaN_byte (a : Int) (w : World) : Calls Tryz.prog 207 #[.int .u8 a] w (fun e w' => e = .returned (.bool false) ∧ w = w') := by
  go_enter Tryz.func207, Tryz.ntmps207
  go_wp2
  go_ret
  exact ⟨rfl, rfl⟩
set_option maxRecDepth 100000 in
set_option maxHeartbeats 1000000 in
theorem cmp_byte (a b : Int) (w : World) : Calls Tryz.prog 147 #[.int .u8 a, .int .u8 b] w (NumPost (ordI a b) w) := by
  have k0 := Lib.hid (fun (a : Int) => notNaN_byte a w)
  rcases Int.lt_trichotomy a b with h | h | h
  · have HR := Lib.hid (ordI_lt h)
    go_enter Tryz.func147, Tryz.ntmps147
    go_wp2_with fail
    refine (k0.out _).mono ?_
    rintro e w1 ⟨rfl, rfl⟩
    go_wp2_with fail
    refine (k0.out _).mono ?_
    rintro e w1 ⟨rfl, rfl⟩
    go_wp2
    go_ret
    exact ⟨ret_num HR.out.symm, rfl⟩
  · have HR := Lib.hid (ordI_eq h)
    go_enter Tryz.func147, Tryz.ntmps147
    go_wp2_with fail
    refine (k0.out _).mono ?_
    rintro e w1 ⟨rfl, rfl⟩
    go_wp2_with fail
    refine (k0.out _).mono ?_
    rintro e w1 ⟨rfl, rfl⟩
    go_wp2
    go_ret
    exact ⟨ret_num HR.out.symm, rfl⟩
  · have HR := Lib.hid (ordI_gt h)
    have h2 : ¬ a < b := by omega
    go_enter Tryz.func147, Tryz.ntmps147
    go_wp2_with fail
    refine (k0.out _).mono ?_
    rintro e w1 ⟨rfl, rfl⟩
    go_wp2_with fail
    refine (k0.out _).mono ?_
    rintro e w1 ⟨rfl, rfl⟩
    go_wp2
    go_ret
    exact ⟨ret_num HR.out.symm, rfl⟩
theorem ordB_drop {a b : List UInt8} {k : Nat} {x y : UInt8} (hx : a[k]? = some x) (hy : b[k]? = some y) : ordB (a.drop k) (b.drop k) = thenI (ordI x.toNat y.toNat) (ordB (a.drop (k + 1)) (b.drop (k + 1))) := by
  obtain ⟨h1, e1⟩ := List.getElem?_eq_some_iff.1 hx
  obtain ⟨h2, e2⟩ := List.getElem?_eq_some_iff.1 hy
  rw [List.drop_eq_getElem_cons h1, List.drop_eq_getElem_cons h2, e1, e2]; rfl
theorem ordL_drop {a b : List V} {k : Nat} {x y : V} (hx : a[k]? = some x) (hy : b[k]? = some y) : ordL (a.drop k) (b.drop k) = thenI (ordV x y) (ordL (a.drop (k + 1)) (b.drop (k + 1))) := by
  obtain ⟨h1, e1⟩ := List.getElem?_eq_some_iff.1 hx
  obtain ⟨h2, e2⟩ := List.getElem?_eq_some_iff.1 hy
  rw [List.drop_eq_getElem_cons h1, List.drop_eq_getElem_cons h2, e1, e2]; rfl
theorem ordD_drop {a b : List (ByteArray × V)} {k : Nat} {x y : ByteArray × V} (hx : a[k]? = some x) (hy : b[k]? = some y) : ordD (a.drop k) (b.drop k) = thenI (thenI (ordS x.1 y.1) (ordV x.2 y.2)) (ordD (a.drop (k + 1)) (b.drop (k + 1))) := by
  obtain ⟨h1, e1⟩ := List.getElem?_eq_some_iff.1 hx
  obtain ⟨h2, e2⟩ := List.getElem?_eq_some_iff.1 hy
  rw [List.drop_eq_getElem_cons h1, List.drop_eq_getElem_cons h2, e1, e2]; rfl
theorem ordB_end1 {a b : List UInt8} {k : Nat} (h : k = b.length) (h2 : k < a.length) : ordB (a.drop k) (b.drop k) = 1 := by
  subst h; rw [List.drop_length, List.drop_eq_getElem_cons h2]; rfl
theorem ordB_end2 {a b : List UInt8} {k : Nat} (h : k = a.length) (h2 : k < b.length) : ordB (a.drop k) (b.drop k) = -1 := by
  subst h; rw [List.drop_length, List.drop_eq_getElem_cons h2]; rfl
theorem ordB_end3 {a b : List UInt8} {k : Nat} (h : k = a.length) (h2 : k = b.length) : ordB (a.drop k) (b.drop k) = 0 := by
  rw [List.drop_eq_nil_of_le (by omega), List.drop_eq_nil_of_le (by omega)]; rfl
theorem ordL_end1 {a b : List V} {k : Nat} (h : k = b.length) (h2 : k < a.length) : ordL (a.drop k) (b.drop k) = 1 := by
  subst h; rw [List.drop_length, List.drop_eq_getElem_cons h2]; rfl
theorem ordL_end2 {a b : List V} {k : Nat} (h : k = a.length) (h2 : k < b.length) : ordL (a.drop k) (b.drop k) = -1 := by
  subst h; rw [List.drop_length, List.drop_eq_getElem_cons h2]; rfl
theorem ordL_end3 {a b : List V} {k : Nat} (h : k = a.length) (h2 : k = b.length) : ordL (a.drop k) (b.drop k) = 0 := by
  rw [List.drop_eq_nil_of_le (by omega), List.drop_eq_nil_of_le (by omega)]; rfl
theorem ordD_end1 {a b : List (ByteArray × V)} {k : Nat} (h : k = b.length) (h2 : k < a.length) : ordD (a.drop k) (b.drop k) = 1 := by
  subst h; rw [List.drop_length, List.drop_eq_getElem_cons h2]; rfl
theorem ordD_end2 {a b : List (ByteArray × V)} {k : Nat} (h : k = a.length) (h2 : k < b.length) : ordD (a.drop k) (b.drop k) = -1 := by
  subst h; rw [List.drop_length, List.drop_eq_getElem_cons h2]; rfl
theorem ordD_end3 {a b : List (ByteArray × V)} {k : Nat} (h : k = a.length) (h2 : k = b.length) : ordD (a.drop k) (b.drop k) = 0 := by
  rw [List.drop_eq_nil_of_le (by omega), List.drop_eq_nil_of_le (by omega)]; rfl
set_option maxRecDepth 100000 in
set_option maxHeartbeats 1000000 in
theorem compare_bytes (a b : List UInt8) (A1 A2 : Option Addr) (c1 c2 : Nat) (S : Nat → Prop) (w : World) (hla : a.length ≤ 140737488351232) (hlb : b.length ≤ 140737488351232) (ha : ByteRow w S A1 a) (hb : ByteRow w S A2 b) :
    Calls Tryz.prog 94 #[.slice A1 a.length c1, .slice A2 b.length c2] w (NumPost (ordB a b) w) := by
  go_enter Tryz.func94, Tryz.ntmps94
  go_wp2
  go_loopw [11] (fun i wr => ∃ k : Nat, i = .int .i64 k ∧ k ≤ a.length ∧ k ≤ b.length ∧ Hid (ordB a b = ordB (a.drop k) (b.drop k)) ∧ w = wr) (fun i _ => a.length - (intOf i).toNat)
  case atStart => exact ⟨0, rfl, by omega, by omega, Lib.hid rfl, rfl⟩
  case round =>
    obtain ⟨k, rfl, hk1, hk2, HT, rfl⟩ := hrel
    by_cases hlt : k < a.length
    · by_cases hlt2 : k < b.length
      · obtain ⟨x, hx⟩ : ∃ x, a[k]? = some x := ⟨_, List.getElem?_eq_getElem hlt⟩
        obtain ⟨y, hy⟩ : ∃ y, b[k]? = some y := ⟨_, List.getElem?_eq_getElem hlt2⟩
        have ha' : ∃ b1 off1, A1 = some ⟨b1, off1, none⟩ ∧ w.cell? ⟨b1, off1 + k, none⟩ = some (.int .u8 (x.toNat : Int)) := by
          rcases ha with h | ⟨b1, off1, h1, _, h2⟩
          · subst h; cases hx
          · exact ⟨b1, off1, h1, h2 k x hx⟩
        have hb' : ∃ b1 off1, A2 = some ⟨b1, off1, none⟩ ∧ w.cell? ⟨b1, off1 + k, none⟩ = some (.int .u8 (y.toNat : Int)) := by
          rcases hb with h | ⟨b1, off1, h1, _, h2⟩
          · subst h; cases hy
          · exact ⟨b1, off1, h1, h2 k y hy⟩
        obtain ⟨b1, off1, rfl, q1⟩ := ha'
        obtain ⟨b2, off2, rfl, q2⟩ := hb'
        have HU : Hid (ordB a b = thenI (ordI x.toNat y.toNat) (ordB (a.drop (k + 1)) (b.drop (k + 1)))) := Lib.hid (HT.out.trans (ordB_drop hx hy))
        have HC := Lib.hid (cmp_byte x.toNat y.toNat w)
        clear ha hb hx hy HT
        generalize hn : ordI x.toNat y.toNat = n at *
        by_cases hz : n = 0
        · have HF := Lib.hid (HU.out.trans (thenI_zero hz))
          have hq : (n != 0) = false := by simp [hz]
          clear hn
          go_wp2_with fail
          refine HC.out.mono ?_
          rintro e w1 ⟨rfl, rfl⟩
          go_wp2
          refine ⟨⟨k + 1, rfl, by omega, by omega, HF, trivial⟩, ?_⟩
          simp [intOf]; omega
        · have HF := Lib.hid (HU.out.trans (thenI_some hz))
          have hq : (n != 0) = true := by simp [hz]
          clear hn
          go_wp2_with fail
          refine HC.out.mono ?_
          rintro e w1 ⟨rfl, rfl⟩
          go_wp2
          go_ret
          exact ⟨ret_num HF.out.symm, rfl⟩
      · have HF := Lib.hid (HT.out.trans (ordB_end1 (by omega) hlt))
        obtain ⟨x, hx⟩ : ∃ x, a[k]? = some x := ⟨_, List.getElem?_eq_getElem hlt⟩
        have ha' : ∃ b1 off1, A1 = some ⟨b1, off1, none⟩ ∧ w.cell? ⟨b1, off1 + k, none⟩ = some (.int .u8 (x.toNat : Int)) := by
          rcases ha with h | ⟨b1, off1, h1, _, h2⟩
          · subst h; cases hx
          · exact ⟨b1, off1, h1, h2 k x hx⟩
        obtain ⟨b1, off1, rfl, q1⟩ := ha'
        clear HT ha hb hx
        go_wp2
        go_ret
        exact ⟨ret_num HF.out.symm, rfl⟩
    · obtain rfl : k = a.length := by omega
      by_cases hlt2 : a.length < b.length
      · have HF := Lib.hid (HT.out.trans (ordB_end2 rfl hlt2))
        clear HT
        go_wp2
        go_ret
        exact ⟨ret_num HF.out.symm, rfl⟩
      · have HF := Lib.hid (HT.out.trans (ordB_end3 rfl (by omega)))
        clear HT
        go_wp2
        go_ret
        exact ⟨ret_num HF.out.symm, rfl⟩
/- A list, as it lies. -/
def ListAt (w : World) (B : Nat) (A : Option Addr) (l : List V) : Prop := l = [] ∨ ∃ b off, A = some ⟨b, off, none⟩ ∧ b < B ∧ RdL w (fun b => b < B) b off l
theorem ListAt.at_ {w : World} {B : Nat} {A : Option Addr} {l : List V} (h : ListAt w B A l) {k : Nat} {x : V} (hx : l[k]? = some x) :
    ∃ b off v, A = some ⟨b, off, none⟩ ∧ b < B ∧ w.cell? ⟨b, off + k, none⟩ = some v ∧ Rd w B x v := by
  rcases h with h | ⟨b, off, h1, h2, h3⟩
  · subst h; cases hx
  · obtain ⟨v, hv, hr⟩ := RdL.iff.1 h3 k x hx
    exact ⟨b, off, v, h1, h2, hv, hr⟩
set_option maxRecDepth 100000 in
set_option maxHeartbeats 1000000 in
theorem compare_list (a b : List V) (ih : ∀ x ∈ a, OrderC x) (A1 A2 : Option Addr) (c1 c2 : Nat) (w : World) (hfa : fineL a) (hfb : fineL b) (hla : a.length ≤ 1099511627776) (hlb : b.length ≤ 1099511627776) (ha : ListAt w w.heap.size A1 a) (hb : ListAt w w.heap.size A2 b) :
    Calls Tryz.prog 96 #[.slice A1 a.length c1, .slice A2 b.length c2, .func (.func 50) #[] #[]] w (OrdPost (ordL a b) w) := by
  go_enter Tryz.func96, Tryz.ntmps96
  go_wp2
  go_loopw [13] (fun i wr => ∃ k : Nat, i = .int .i64 k ∧ k ≤ a.length ∧ k ≤ b.length ∧ Hid (ordL a b = ordL (a.drop k) (b.drop k)) ∧ Below w.heap.size w wr) (fun i _ => a.length - (intOf i).toNat)
  case atStart => exact ⟨0, rfl, by omega, by omega, Lib.hid rfl, Below.refl _ _⟩
  case round =>
    obtain ⟨k, rfl, hk1, hk2, HT, hbw⟩ := hrel
    by_cases hlt : k < a.length
    · by_cases hlt2 : k < b.length
      · obtain ⟨x, hx⟩ : ∃ x, a[k]? = some x := ⟨_, List.getElem?_eq_getElem hlt⟩
        obtain ⟨y, hy⟩ : ∃ y, b[k]? = some y := ⟨_, List.getElem?_eq_getElem hlt2⟩
        obtain ⟨b1, off1, v1, rfl, hB1, q1, hr1⟩ := ha.at_ hx
        obtain ⟨b2, off2, v2, rfl, hB2, q2, hr2⟩ := hb.at_ hy
        replace q1 := (hbw.cell (p := ⟨b1, off1 + k, none⟩) hB1).trans q1
        replace q2 := (hbw.cell (p := ⟨b2, off2 + k, none⟩) hB2).trans q2
        have HU : Hid (ordL a b = thenI (ordV x y) (ordL (a.drop (k + 1)) (b.drop (k + 1)))) := Lib.hid (HT.out.trans (ordL_drop hx hy))
        have HC := Lib.hid (ih x (List.mem_of_getElem? hx) y v1 v2 wr (fineL_iff.1 hfa x (List.mem_of_getElem? hx)) (fineL_iff.1 hfb y (List.mem_of_getElem? hy)) (Rd.more hbw.size _ _ (hr1.below hbw)) (Rd.more hbw.size _ _ (hr2.below hbw)))
        have o1 := hr1.one
        have o2 := hr2.one
        clear ha hb hx hy HT ih hfa hfb hr1 hr2
        generalize hn : ordV x y = n at *
        by_cases hz : n = 0
        · have HF := Lib.hid (HU.out.trans (thenI_zero hz))
          have hq : (n != 0) = false := by simp [hz]
          clear hn
          go_wp2_with fail
          refine HC.out.mono ?_
          rintro e w1 ⟨rfl, hb1⟩
          go_wp2
          refine ⟨⟨k + 1, rfl, by omega, by omega, HF, hbw.trans (hb1.mono hbw.size)⟩, ?_⟩
          simp [intOf]; omega
        · have HF := Lib.hid (HU.out.trans (thenI_some hz))
          have hq : (n != 0) = true := by simp [hz]
          clear hn
          go_wp2_with fail
          refine HC.out.mono ?_
          rintro e w1 ⟨rfl, hb1⟩
          go_wp2
          go_ret
          exact ⟨ret_num HF.out.symm, hbw.trans (hb1.mono hbw.size)⟩
      · have HF := Lib.hid (HT.out.trans (ordL_end1 (by omega) hlt))
        obtain ⟨x, hx⟩ : ∃ x, a[k]? = some x := ⟨_, List.getElem?_eq_getElem hlt⟩
        obtain ⟨b1, off1, v1, rfl, hB1, q1, hr1⟩ := ha.at_ hx
        replace q1 := (hbw.cell (p := ⟨b1, off1 + k, none⟩) hB1).trans q1
        have o1 := hr1.one
        clear HT ih ha hb hx hr1
        go_wp2
        go_ret
        exact ⟨ret_num HF.out.symm, hbw⟩
    · obtain rfl : k = a.length := by omega
      by_cases hlt2 : a.length < b.length
      · have HF := Lib.hid (HT.out.trans (ordL_end2 rfl hlt2))
        clear HT ih ha hb
        go_wp2
        go_ret
        exact ⟨ret_num HF.out.symm, hbw⟩
      · have HF := Lib.hid (HT.out.trans (ordL_end3 rfl (by omega)))
        clear HT ih ha hb
        go_wp2
        go_ret
        exact ⟨ret_num HF.out.symm, hbw⟩
end Go.Proofs.YtobpkelblpdajaaGreatDoor
