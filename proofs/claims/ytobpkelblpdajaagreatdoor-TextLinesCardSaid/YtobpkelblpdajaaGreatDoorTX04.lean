/- Walks: value.own. -/
import Derived.Test.YtobpkelblpdajaaGreatDoorTX03
set_option linter.unusedVariables false
set_option linter.unusedSimpArgs false
set_option linter.unusedSectionVars false
namespace Go.Proofs.YtobpkelblpdajaaGreatDoor
open Go Go.RowKit
attribute [local go_sem] ta_no_bool ta_yes_bool ta_nil_bool ta_no_int64 ta_yes_int64 ta_nil_int64 ta_no_flt ta_yes_flt ta_nil_flt ta_no_str ta_yes_str ta_nil_str ta_no_byt ta_yes_byt ta_nil_byt ta_no_ref ta_yes_ref ta_nil_ref ta_no_lst ta_yes_lst ta_nil_lst ta_no_dct ta_yes_dct ta_nil_dct ta_no_rec ta_yes_rec ta_nil_rec
noncomputable def ownV (x : V) (n deep : Nat) : Nat :=
  if 16384 ≤ n ∨ 64 < deep then (match x with | .nothing => 7 | .alien => 6 | _ => 2)
  else match x with
    | .text s => if 65536 < s.size then 2 else 0
    | .bytes l => if 65536 < l.length then 2 else 0
    | .list l => if 4096 < l.length then 2 else 0
    | .dict l => fieldsV l
    | .nothing => 7
    | .record c v l => if nameB c.data.toList = false then 8 else if v < 1 ∨ 1000 < v then 1 else fieldsV l
    | .alien => 6
    | _ => 0
def farV (x : V) : Nat := match x with | .nothing => 7 | .alien => 6 | _ => 2
theorem ownV_far {x : V} {n deep : Nat} (h : 16384 ≤ n ∨ 64 < deep) : ownV x n deep = farV x := by unfold ownV farV; rw [if_pos h]
theorem farV_kind (x : V) : farV x = if kindV x = 11 then 7 else if kindV x = 0 then 6 else 2 := by cases x <;> rfl
set_option maxRecDepth 100000 in
set_option maxHeartbeats 1000000 in
theorem own_far (x : V) (v : Value) (n deep : Nat) (w : World) (h : Rd w w.heap.size x v) (hf : 16384 ≤ n ∨ 64 < deep) : Calls Tryz.prog 145 #[v, .int .i64 n, .int .i64 deep] w fun e w' => e = .returned (.int .i64 (farV x)) ∧ Below w.heap.size w w' := by
  have HK := Lib.hid (kind_any x v w.heap.size w h)
  have HF := Lib.hid (farV_kind x)
  have hk : kindV x = 11 ∨ kindV x = 0 ∨ (kindV x ≠ 11 ∧ kindV x ≠ 0) := by omega
  clear h
  generalize kindV x = k at *
  generalize farV x = r at *
  have hd : decide ((n : Int) ≥ 16384) = true ∨ (decide ((n : Int) ≥ 16384) = false ∧ decide ((deep : Int) > 64) = true) := by
    simp only [decide_eq_true_eq, decide_eq_false_iff_not]; omega
  rcases hk with rfl | rfl | ⟨k1, k2⟩
  rotate_left 2
  have k3 : ((k : Int) == 11) = false := by rw [beq_eq_false_iff_ne]; omega
  have k4 : ((k : Int) == 0) = false := by rw [beq_eq_false_iff_ne]; omega
  rotate_left
  all_goals
    rcases hd with g | ⟨g, g2⟩ <;> clear hf <;>
      (go_enter Tryz.func145, Tryz.ntmps145
       go_wp2_with fail
       refine HK.out.mono ?_
       rintro e w1 ⟨rfl, rfl⟩
       go_wp2
       go_ret
       exact ⟨ret_int (by rw [HF.out]; simp_all), Below.refl _ _⟩)
theorem near_no {n deep : Nat} (hn : n < 16384) (hd : deep ≤ 64) : ¬ (16384 ≤ n ∨ 64 < deep) := by omega
set_option maxRecDepth 100000 in
set_option maxHeartbeats 1000000 in
theorem own_nil (n deep : Nat) (w : World) (hn : n < 16384) (hd : deep ≤ 64) : Calls Tryz.prog 145 #[.nilIface, .int .i64 n, .int .i64 deep] w fun e w' => e = .returned (.int .i64 (ownV (.nil) n deep)) ∧ Below w.heap.size w w' := by
  have g : decide ((n : Int) ≥ 16384) = false := by simp only [decide_eq_false_iff_not]; omega
  have g2 : decide ((deep : Int) > 64) = false := by simp only [decide_eq_false_iff_not]; omega
  have HR : ownV (.nil) n deep = 0 := by unfold ownV; rw [if_neg (near_no hn hd)]
  clear hn hd
  have HK := Lib.hid (kind_nil w)
  replace HR := Lib.hid HR
  go_enter Tryz.func145, Tryz.ntmps145
  go_wp2_with fail
  refine HK.out.mono ?_
  rintro e w1 ⟨rfl, rfl⟩
  go_wp2
  go_ret
  exact ⟨ret_int (by rw [HR.out]; rfl), Below.refl _ _⟩
set_option maxRecDepth 100000 in
set_option maxHeartbeats 1000000 in
theorem own_bool (b : Bool) (n deep : Nat) (w : World) (hn : n < 16384) (hd : deep ≤ 64) : Calls Tryz.prog 145 #[.iface 4 (.bool b), .int .i64 n, .int .i64 deep] w fun e w' => e = .returned (.int .i64 (ownV (.bool b) n deep)) ∧ Below w.heap.size w w' := by
  have g : decide ((n : Int) ≥ 16384) = false := by simp only [decide_eq_false_iff_not]; omega
  have g2 : decide ((deep : Int) > 64) = false := by simp only [decide_eq_false_iff_not]; omega
  have HR : ownV (.bool b) n deep = 0 := by unfold ownV; rw [if_neg (near_no hn hd)]
  clear hn hd
  have HK := Lib.hid (kind_bool b w)
  replace HR := Lib.hid HR
  go_enter Tryz.func145, Tryz.ntmps145
  go_wp2_with fail
  refine HK.out.mono ?_
  rintro e w1 ⟨rfl, rfl⟩
  go_wp2
  go_ret
  exact ⟨ret_int (by rw [HR.out]; rfl), Below.refl _ _⟩
set_option maxRecDepth 100000 in
set_option maxHeartbeats 1000000 in
theorem own_int (i : Int) (n deep : Nat) (w : World) (hn : n < 16384) (hd : deep ≤ 64) : Calls Tryz.prog 145 #[.iface 2 (.int .i64 i), .int .i64 n, .int .i64 deep] w fun e w' => e = .returned (.int .i64 (ownV (.int i) n deep)) ∧ Below w.heap.size w w' := by
  have g : decide ((n : Int) ≥ 16384) = false := by simp only [decide_eq_false_iff_not]; omega
  have g2 : decide ((deep : Int) > 64) = false := by simp only [decide_eq_false_iff_not]; omega
  have HR : ownV (.int i) n deep = 0 := by unfold ownV; rw [if_neg (near_no hn hd)]
  clear hn hd
  have HK := Lib.hid (kind_int i w)
  replace HR := Lib.hid HR
  go_enter Tryz.func145, Tryz.ntmps145
  go_wp2_with fail
  refine HK.out.mono ?_
  rintro e w1 ⟨rfl, rfl⟩
  go_wp2
  go_ret
  exact ⟨ret_int (by rw [HR.out]; rfl), Below.refl _ _⟩
set_option maxRecDepth 100000 in
set_option maxHeartbeats 1000000 in
theorem own_flt (i : Nat) (n deep : Nat) (w : World) (hn : n < 16384) (hd : deep ≤ 64) : Calls Tryz.prog 145 #[.iface 22 (.float .f64 i), .int .i64 n, .int .i64 deep] w fun e w' => e = .returned (.int .i64 (ownV (.flt i) n deep)) ∧ Below w.heap.size w w' := by
  have g : decide ((n : Int) ≥ 16384) = false := by simp only [decide_eq_false_iff_not]; omega
  have g2 : decide ((deep : Int) > 64) = false := by simp only [decide_eq_false_iff_not]; omega
  have HR : ownV (.flt i) n deep = 0 := by unfold ownV; rw [if_neg (near_no hn hd)]
  clear hn hd
  have HK := Lib.hid (kind_flt i w)
  replace HR := Lib.hid HR
  go_enter Tryz.func145, Tryz.ntmps145
  go_wp2_with fail
  refine HK.out.mono ?_
  rintro e w1 ⟨rfl, rfl⟩
  go_wp2
  go_ret
  exact ⟨ret_int (by rw [HR.out]; rfl), Below.refl _ _⟩
set_option maxRecDepth 100000 in
set_option maxHeartbeats 1000000 in
theorem own_ref (i : Int) (n deep : Nat) (w : World) (hn : n < 16384) (hd : deep ≤ 64) : Calls Tryz.prog 145 #[.iface 25 (.int .u64 i), .int .i64 n, .int .i64 deep] w fun e w' => e = .returned (.int .i64 (ownV (.ref i) n deep)) ∧ Below w.heap.size w w' := by
  have g : decide ((n : Int) ≥ 16384) = false := by simp only [decide_eq_false_iff_not]; omega
  have g2 : decide ((deep : Int) > 64) = false := by simp only [decide_eq_false_iff_not]; omega
  have HR : ownV (.ref i) n deep = 0 := by unfold ownV; rw [if_neg (near_no hn hd)]
  clear hn hd
  have HK := Lib.hid (kind_ref i w)
  replace HR := Lib.hid HR
  go_enter Tryz.func145, Tryz.ntmps145
  go_wp2_with fail
  refine HK.out.mono ?_
  rintro e w1 ⟨rfl, rfl⟩
  go_wp2
  go_ret
  exact ⟨ret_int (by rw [HR.out]; rfl), Below.refl _ _⟩
set_option maxRecDepth 100000 in
set_option maxHeartbeats 1000000 in
theorem own_nothing (n deep : Nat) (w : World) (hn : n < 16384) (hd : deep ≤ 64) : Calls Tryz.prog 145 #[.iface 32 (.pointer none), .int .i64 n, .int .i64 deep] w fun e w' => e = .returned (.int .i64 (ownV (.nothing) n deep)) ∧ Below w.heap.size w w' := by
  have g : decide ((n : Int) ≥ 16384) = false := by simp only [decide_eq_false_iff_not]; omega
  have g2 : decide ((deep : Int) > 64) = false := by simp only [decide_eq_false_iff_not]; omega
  have HR : ownV (.nothing) n deep = 7 := by unfold ownV; rw [if_neg (near_no hn hd)]
  clear hn hd
  replace HR := Lib.hid HR
  go_enter Tryz.func145, Tryz.ntmps145
  go_wp2
  go_ret
  exact ⟨ret_int (by rw [HR.out]; rfl), Below.refl _ _⟩
set_option maxRecDepth 100000 in
set_option maxHeartbeats 1000000 in
theorem own_alien (t : TypeId) (x : Value) (n deep : Nat) (w : World) (hn : n < 16384) (hd : deep ≤ 64) (ht : alienT t = true) : Calls Tryz.prog 145 #[.iface t x, .int .i64 n, .int .i64 deep] w fun e w' => e = .returned (.int .i64 (ownV (.alien) n deep)) ∧ Below w.heap.size w w' := by
  have g : decide ((n : Int) ≥ 16384) = false := by simp only [decide_eq_false_iff_not]; omega
  have g2 : decide ((deep : Int) > 64) = false := by simp only [decide_eq_false_iff_not]; omega
  have HR : ownV (.alien) n deep = 6 := by unfold ownV; rw [if_neg (near_no hn hd)]
  clear hn hd
  have HK := Lib.hid (kind_alien t x w ht)
  obtain ⟨a1, a2, a3, a4, a5, a6, a7, a8, a9⟩ := alienT_ne ht
  clear ht
  replace HR := Lib.hid HR
  go_enter Tryz.func145, Tryz.ntmps145
  go_wp2_with fail
  refine HK.out.mono ?_
  rintro e w1 ⟨rfl, rfl⟩
  go_wp2
  go_ret
  exact ⟨ret_int (by rw [HR.out]; rfl), Below.refl _ _⟩
set_option maxRecDepth 100000 in
set_option maxHeartbeats 1000000 in
theorem own_text (s : ByteArray) (n deep : Nat) (w : World) (hn : n < 16384) (hd : deep ≤ 64) : Calls Tryz.prog 145 #[.iface 9 (.string s), .int .i64 n, .int .i64 deep] w fun e w' => e = .returned (.int .i64 (ownV (.text s) n deep)) ∧ Below w.heap.size w w' := by
  have g : decide ((n : Int) ≥ 16384) = false := by simp only [decide_eq_false_iff_not]; omega
  have g2 : decide ((deep : Int) > 64) = false := by simp only [decide_eq_false_iff_not]; omega
  have HR : ownV (.text s) n deep = if 65536 < s.size then 2 else 0 := by unfold ownV; rw [if_neg (near_no hn hd)]
  clear hn hd
  by_cases q : 65536 < s.size
  · have q' : decide ((s.size : Int) > 65536) = true := by simp only [decide_eq_true_eq]; omega
    rw [if_pos q] at HR
    replace HR := Lib.hid HR
    clear q
    go_enter Tryz.func145, Tryz.ntmps145
    go_wp2
    go_ret
    exact ⟨ret_int (by rw [HR.out]; rfl), Below.refl _ _⟩
  · have q' : decide ((s.size : Int) > 65536) = false := by simp only [decide_eq_false_iff_not]; omega
    rw [if_neg q] at HR
    replace HR := Lib.hid HR
    clear q
    go_enter Tryz.func145, Tryz.ntmps145
    go_wp2
    go_ret
    exact ⟨ret_int (by rw [HR.out]; rfl), Below.refl _ _⟩
set_option maxRecDepth 100000 in
set_option maxHeartbeats 1000000 in
theorem own_bytes (l : List UInt8) (A : Option Addr) (c : Nat) (n deep : Nat) (w : World) (hn : n < 16384) (hd : deep ≤ 64) : Calls Tryz.prog 145 #[.iface 23 (.slice A l.length c), .int .i64 n, .int .i64 deep] w fun e w' => e = .returned (.int .i64 (ownV (.bytes l) n deep)) ∧ Below w.heap.size w w' := by
  have g : decide ((n : Int) ≥ 16384) = false := by simp only [decide_eq_false_iff_not]; omega
  have g2 : decide ((deep : Int) > 64) = false := by simp only [decide_eq_false_iff_not]; omega
  have HR : ownV (.bytes l) n deep = if 65536 < l.length then 2 else 0 := by unfold ownV; rw [if_neg (near_no hn hd)]
  clear hn hd
  by_cases q : 65536 < l.length
  · have q' : decide ((l.length : Int) > 65536) = true := by simp only [decide_eq_true_eq]; omega
    rw [if_pos q] at HR
    replace HR := Lib.hid HR
    clear q
    go_enter Tryz.func145, Tryz.ntmps145
    go_wp2
    go_ret
    exact ⟨ret_int (by rw [HR.out]; rfl), Below.refl _ _⟩
  · have q' : decide ((l.length : Int) > 65536) = false := by simp only [decide_eq_false_iff_not]; omega
    rw [if_neg q] at HR
    replace HR := Lib.hid HR
    clear q
    go_enter Tryz.func145, Tryz.ntmps145
    go_wp2
    go_ret
    exact ⟨ret_int (by rw [HR.out]; rfl), Below.refl _ _⟩
set_option maxRecDepth 100000 in
set_option maxHeartbeats 1000000 in
theorem own_list (l : List V) (A : Option Addr) (c : Nat) (n deep : Nat) (w : World) (hn : n < 16384) (hd : deep ≤ 64) : Calls Tryz.prog 145 #[.iface 43 (.slice A l.length c), .int .i64 n, .int .i64 deep] w fun e w' => e = .returned (.int .i64 (ownV (.list l) n deep)) ∧ Below w.heap.size w w' := by
  have g : decide ((n : Int) ≥ 16384) = false := by simp only [decide_eq_false_iff_not]; omega
  have g2 : decide ((deep : Int) > 64) = false := by simp only [decide_eq_false_iff_not]; omega
  have HR : ownV (.list l) n deep = if 4096 < l.length then 2 else 0 := by unfold ownV; rw [if_neg (near_no hn hd)]
  clear hn hd
  by_cases q : 4096 < l.length
  · have q' : decide ((l.length : Int) > 4096) = true := by simp only [decide_eq_true_eq]; omega
    rw [if_pos q] at HR
    replace HR := Lib.hid HR
    clear q
    go_enter Tryz.func145, Tryz.ntmps145
    go_wp2
    go_ret
    exact ⟨ret_int (by rw [HR.out]; rfl), Below.refl _ _⟩
  · have q' : decide ((l.length : Int) > 4096) = false := by simp only [decide_eq_false_iff_not]; omega
    rw [if_neg q] at HR
    replace HR := Lib.hid HR
    clear q
    go_enter Tryz.func145, Tryz.ntmps145
    go_wp2
    go_ret
    exact ⟨ret_int (by rw [HR.out]; rfl), Below.refl _ _⟩
set_option maxRecDepth 100000 in
set_option maxHeartbeats 1000000 in
theorem own_dict (l : List (ByteArray × V)) (A : Option Addr) (c : Nat) (n deep : Nat) (w : World) (hn : n < 16384) (hd : deep ≤ 64) (hl : l.length ≤ 1099511627776) (hD : DictAt w w.heap.size A l) : Calls Tryz.prog 145 #[.iface 41 (.slice A l.length c), .int .i64 n, .int .i64 deep] w fun e w' => e = .returned (.int .i64 (ownV (.dict l) n deep)) ∧ Below w.heap.size w w' := by
  have g : decide ((n : Int) ≥ 16384) = false := by simp only [decide_eq_false_iff_not]; omega
  have g2 : decide ((deep : Int) > 64) = false := by simp only [decide_eq_false_iff_not]; omega
  have HR : ownV (.dict l) n deep = fieldsV l := by unfold ownV; rw [if_neg (near_no hn hd)]
  clear hn hd
  have HK := Lib.hid (fields_any l A c w hl hD)
  clear hD
  replace HR := Lib.hid HR
  go_enter Tryz.func145, Tryz.ntmps145
  go_wp2_with fail
  refine HK.out.mono ?_
  rintro e w1 ⟨rfl, hb1⟩
  go_wp2
  go_ret
  exact ⟨ret_int (by rw [HR.out]), hb1⟩
set_option maxRecDepth 100000 in
set_option maxHeartbeats 1000000 in
theorem own_record (cls : ByteArray) (ver : Int) (l : List (ByteArray × V)) (b : Nat) (A : Option Addr) (c : Nat) (n deep : Nat) (w : World) (hn : n < 16384) (hd : deep ≤ 64) (hb : b < w.heap.size) (hcs : cls.size ≤ 140737488351232) (c0 : w.cell? ⟨b, 0, none⟩ = some (.string cls)) (c1 : w.cell? ⟨b, 1, none⟩ = some (.int .i64 ver)) (c2 : w.cell? ⟨b, 2, none⟩ = some (.slice A l.length c)) (hl : l.length ≤ 1099511627776) (hD : DictAt w w.heap.size A l) : Calls Tryz.prog 145 #[.iface 32 (.pointer (some ⟨b, 0, none⟩)), .int .i64 n, .int .i64 deep] w fun e w' => e = .returned (.int .i64 (ownV (.record cls ver l) n deep)) ∧ Below w.heap.size w w' := by
  have g : decide ((n : Int) ≥ 16384) = false := by simp only [decide_eq_false_iff_not]; omega
  have g2 : decide ((deep : Int) > 64) = false := by simp only [decide_eq_false_iff_not]; omega
  have HR : ownV (.record cls ver l) n deep = if nameB cls.data.toList = false then 8 else if ver < 1 ∨ 1000 < ver then 1 else fieldsV l := by unfold ownV; rw [if_neg (near_no hn hd)]
  clear hn hd
  have HN := fun (W : World) => name_any cls W hcs
  have HK := Lib.hid (fun (W : World) (hb : Below w.heap.size w W) => fields_any l A c W hl ((hD.below hb).more hb.size))
  clear hD
  cases hnm : nameB cls.data.toList <;> rw [hnm] at HN HR <;> have HNN := Lib.hid HN <;> simp only [if_pos, if_neg, Bool.true_eq_false, if_false] at HR <;> replace HR := Lib.hid HR <;> clear HN hnm
  · go_enter Tryz.func145, Tryz.ntmps145
    go_wp2_with fail
    refine (HNN.out w).mono ?_
    rintro e w1 ⟨rfl, hb1⟩
    go_wp2
    go_ret
    exact ⟨ret_int (by rw [HR.out]; rfl), hb1⟩
  · have hv : (decide (ver < 1) = true) ∨ (decide (ver < 1) = false ∧ decide (ver > 1000) = true) ∨ (decide (ver < 1) = false ∧ decide (ver > 1000) = false) := by
      simp only [decide_eq_true_eq, decide_eq_false_iff_not]; omega
    rcases hv with q | ⟨q, q2⟩ | ⟨q, q2⟩
    rotate_left 2
    · replace HR := HR.out
      rw [if_neg (by simp only [decide_eq_true_eq, decide_eq_false_iff_not] at q q2; omega)] at HR
      replace HR := Lib.hid HR
      go_enter Tryz.func145, Tryz.ntmps145
      go_wp2_with fail
      refine (HNN.out w).mono ?_
      rintro e w1 ⟨rfl, hb1⟩
      have d1 := (hb1.cell (p := ⟨b, 1, none⟩) hb).trans c1
      have d2 := (hb1.cell (p := ⟨b, 2, none⟩) hb).trans c2
      go_wp2_with fail
      refine (HK.out w1 hb1).mono ?_
      rintro e w2 ⟨rfl, hb2⟩
      go_wp2
      go_ret
      exact ⟨ret_int (by rw [HR.out]), hb1.trans (hb2.mono hb1.size)⟩
    all_goals
      replace HR := HR.out
      rw [if_pos (by simp only [decide_eq_true_eq, decide_eq_false_iff_not] at q; (try simp only [decide_eq_true_eq] at q2); omega)] at HR
      replace HR := Lib.hid HR
      clear HK
      go_enter Tryz.func145, Tryz.ntmps145
      go_wp2_with fail
      refine (HNN.out w).mono ?_
      rintro e w1 ⟨rfl, hb1⟩
      have d1 := (hb1.cell (p := ⟨b, 1, none⟩) hb).trans c1
      go_wp2
      go_ret
      exact ⟨ret_int (by rw [HR.out]; rfl), hb1⟩
theorem own_any (x : V) (v : Value) (n deep : Nat) (w : World) (h : Rd w w.heap.size x v) : Calls Tryz.prog 145 #[v, .int .i64 n, .int .i64 deep] w fun e w' => e = .returned (.int .i64 (ownV x n deep)) ∧ Below w.heap.size w w' := by
  by_cases hf : 16384 ≤ n ∨ 64 < deep
  · rw [ownV_far hf]; exact own_far x v n deep w h hf
  have hn : n < 16384 := by omega
  have hd : deep ≤ 64 := by omega
  cases x with
  | nil => subst h; exact own_nil n deep w hn hd
  | bool b => subst h; exact own_bool b n deep w hn hd
  | int i => obtain ⟨rfl, _⟩ := h; exact own_int i n deep w hn hd
  | flt i => subst h; exact own_flt i n deep w hn hd
  | text s => obtain ⟨rfl, _⟩ := h; exact own_text s n deep w hn hd
  | bytes l => obtain ⟨A, c, rfl, _⟩ := h; exact own_bytes l A c n deep w hn hd
  | ref i => obtain ⟨rfl, _⟩ := h; exact own_ref i n deep w hn hd
  | list l => obtain ⟨A, c, rfl, _⟩ := h; exact own_list l A c n deep w hn hd
  | dict l => obtain ⟨A, c, rfl, h1, h2⟩ := h; exact own_dict l A c n deep w hn hd h1 h2
  | record a b c =>
    obtain ⟨b, rfl, h1, h2, h3, h4, _, _, A, c, h5, h6, h7⟩ := h
    exact own_record _ _ _ b A c n deep w hn hd h1 h2 h3 h4 h5 h6 h7
  | nothing => subst h; exact own_nothing n deep w hn hd
  | alien => obtain ⟨t, x, rfl, ht⟩ := h; exact own_alien t x n deep w hn hd ht
end Go.Proofs.YtobpkelblpdajaaGreatDoor
