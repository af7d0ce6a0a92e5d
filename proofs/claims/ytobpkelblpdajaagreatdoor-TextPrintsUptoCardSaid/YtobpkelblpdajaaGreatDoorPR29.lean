/- The term of a value (mk.Plain), as a plain function; walks: the leaves. -/
import Derived.Test.YtobpkelblpdajaaGreatDoorPR11
set_option linter.unusedVariables false
set_option linter.unusedSimpArgs false
set_option linter.unusedSectionVars false
namespace Go.Proofs.YtobpkelblpdajaaGreatDoor
open Go Go.RowKit
attribute [local go_sem] ta_no_bool ta_yes_bool ta_nil_bool ta_no_int64 ta_yes_int64 ta_nil_int64 ta_no_flt ta_yes_flt ta_nil_flt ta_no_str ta_yes_str ta_nil_str ta_no_byt ta_yes_byt ta_nil_byt ta_no_ref ta_yes_ref ta_nil_ref ta_no_lst ta_yes_lst ta_nil_lst ta_no_dct ta_yes_dct ta_nil_dct ta_no_rec ta_yes_rec ta_nil_rec
mutual
/- The term of a value, so deep and no deeper. -/
def plainT : V → Nat → Tm
  | x, d => if 400 < d then .mk 0 false 0 0 ⟨#[]⟩ [] 0 [] [] ⟨#[]⟩ 0 else match x with
    | .nil => .mk 1 false 0 0 ⟨#[]⟩ [] 0 [] [] ⟨#[]⟩ 0
    | .bool b => .mk 2 b 0 0 ⟨#[]⟩ [] 0 [] [] ⟨#[]⟩ 0
    | .int n => .mk 3 false n 0 ⟨#[]⟩ [] 0 [] [] ⟨#[]⟩ 0
    | .flt f => .mk 4 false 0 f ⟨#[]⟩ [] 0 [] [] ⟨#[]⟩ 0
    | .text s => .mk 5 false 0 0 s [] 0 [] [] ⟨#[]⟩ 0
    | .bytes l => .mk 6 false 0 0 ⟨#[]⟩ l 0 [] [] ⟨#[]⟩ 0
    | .ref n => .mk 7 false 0 0 ⟨#[]⟩ [] n [] [] ⟨#[]⟩ 0
    | .list l => .mk 8 false 0 0 ⟨#[]⟩ [] 0 (plainL l (d + 1)) [] ⟨#[]⟩ 0
    | .dict l => .mk 9 false 0 0 ⟨#[]⟩ [] 0 [] (plainD l (d + 1)) ⟨#[]⟩ 0
    | .record c v l => .mk 10 false 0 0 ⟨#[]⟩ [] 0 [] (plainD l (d + 1)) c v
    | .nothing => .mk 11 false 0 0 ⟨#[]⟩ [] 0 [] [] ⟨#[]⟩ 0
    | .alien => .mk 0 false 0 0 ⟨#[]⟩ [] 0 [] [] ⟨#[]⟩ 0
def plainL : List V → Nat → List Tm
  | [], _ => []
  | x :: r, d => plainT x d :: plainL r d
def plainD : List (ByteArray × V) → Nat → List (ByteArray × Tm)
  | [], _ => []
  | (n, x) :: r, d => (n, plainT x d) :: plainD r d
end
theorem plainL_eq (l : List V) (d : Nat) : plainL l d = l.map (plainT · d) := by
  induction l with
  | nil => rfl
  | cons x r ih => simp [plainL, ih]
theorem plainD_eq (l : List (ByteArray × V)) (d : Nat) : plainD l d = l.map fun p => (p.1, plainT p.2 d) := by
  induction l with
  | nil => rfl
  | cons x r ih => obtain ⟨n, x⟩ := x; simp [plainD, ih]
def TermPost (t : Tm) (w : World) (e : Ending) (w' : World) : Prop := ∃ y, e = .returned (termOf y) ∧ RdTS w' (New w w') t y ∧ Below w.heap.size w w'
set_option maxRecDepth 100000 in
set_option maxHeartbeats 1000000 in
theorem plainX_nil (d : Nat) (hd : d ≤ 400) (w : World) : Calls Tryz.prog 127 #[.nilIface, .int .i64 d] w (fun e w' => e = .returned (.agg #[.int .i64 1, .bool false, .int .i64 0, .float .f64 0, .string ⟨#[]⟩, .slice none 0 0, .int .u64 0, .slice none 0 0, .slice none 0 0, .string ⟨#[]⟩, .int .i64 0]) ∧ Below w.heap.size w w') := by
  have hq : decide ((400 : Int) < (d : Int)) = false := by simp; omega
  have o0 := fun (W : World) (a : Addr) (m : Mode) (x : Nat) => run_store Tryz.prog W a (.float .f64 x) m rfl
  go_enter Tryz.func127, Tryz.ntmps127
  go_wp2
  (try simp only [Exit.inBlock, Exit.then]); refine bodyPost_ret (v := .agg #[.int .i64 1, .bool false, .int .i64 0, .float .f64 0, .string ⟨#[]⟩, .slice none 0 0, .int .u64 0, .slice none 0 0, .slice none 0 0, .string ⟨#[]⟩, .int .i64 0]) (by simp [results, Tryz.results127, go_sem]) rfl ?_
  exact ⟨rfl, ((Below.refl _ _).alloc (Nat.le_refl _) _)⟩
theorem plain_nil (d : Nat) (hd : d ≤ 400) (w : World) : Calls Tryz.prog 127 #[.nilIface, .int .i64 d] w (TermPost (plainT .nil d) w) := by
  have hT : plainT .nil d = .mk 1 false 0 0 ⟨#[]⟩ [] 0 [] [] ⟨#[]⟩ 0 := by rw [plainT, if_neg (by omega)]
  rw [hT]
  refine (plainX_nil  d hd w).mono ?_
  rintro e w' ⟨rfl, hb⟩
  exact ⟨[.int .i64 1, .bool false, .int .i64 0, .float .f64 0, .string ⟨#[]⟩, .slice none 0 0, .int .u64 0, .slice none 0 0, .slice none 0 0, .string ⟨#[]⟩, .int .i64 0], rfl, ⟨none, 0, none, 0, none, 0, rfl, ⟨by decide, by decide⟩, ⟨by decide, by decide⟩, by decide, by decide, ⟨fun _ => rfl, .inl rfl⟩, by decide, by decide, by decide, ⟨by decide, by decide⟩, ⟨by decide, .inl rfl⟩, ⟨by decide, .inl rfl⟩⟩, hb⟩
set_option maxRecDepth 100000 in
set_option maxHeartbeats 1000000 in
theorem plainX_bool (b : Bool) (d : Nat) (hd : d ≤ 400) (w : World) : Calls Tryz.prog 127 #[.iface 4 (.bool b), .int .i64 d] w (fun e w' => e = .returned (.agg #[.int .i64 2, .bool b, .int .i64 0, .float .f64 0, .string ⟨#[]⟩, .slice none 0 0, .int .u64 0, .slice none 0 0, .slice none 0 0, .string ⟨#[]⟩, .int .i64 0]) ∧ Below w.heap.size w w') := by
  have hq : decide ((400 : Int) < (d : Int)) = false := by simp; omega
  have o0 := fun (W : World) (a : Addr) (m : Mode) (x : Nat) => run_store Tryz.prog W a (.float .f64 x) m rfl
  go_enter Tryz.func127, Tryz.ntmps127
  go_wp2
  (try simp only [Exit.inBlock, Exit.then]); refine bodyPost_ret (v := .agg #[.int .i64 2, .bool b, .int .i64 0, .float .f64 0, .string ⟨#[]⟩, .slice none 0 0, .int .u64 0, .slice none 0 0, .slice none 0 0, .string ⟨#[]⟩, .int .i64 0]) (by simp [results, Tryz.results127, go_sem]) rfl ?_
  exact ⟨rfl, ((Below.refl _ _).alloc (Nat.le_refl _) _)⟩
theorem plain_bool (b : Bool) (d : Nat) (hd : d ≤ 400) (w : World) : Calls Tryz.prog 127 #[.iface 4 (.bool b), .int .i64 d] w (TermPost (plainT (.bool b) d) w) := by
  have hT : plainT (.bool b) d = .mk 2 b 0 0 ⟨#[]⟩ [] 0 [] [] ⟨#[]⟩ 0 := by rw [plainT, if_neg (by omega)]
  rw [hT]
  refine (plainX_bool b d hd w).mono ?_
  rintro e w' ⟨rfl, hb⟩
  exact ⟨[.int .i64 2, .bool b, .int .i64 0, .float .f64 0, .string ⟨#[]⟩, .slice none 0 0, .int .u64 0, .slice none 0 0, .slice none 0 0, .string ⟨#[]⟩, .int .i64 0], rfl, ⟨none, 0, none, 0, none, 0, rfl, ⟨by decide, by decide⟩, ⟨by decide, by decide⟩, by decide, by decide, ⟨fun _ => rfl, .inl rfl⟩, by decide, by decide, by decide, ⟨by decide, by decide⟩, ⟨by decide, .inl rfl⟩, ⟨by decide, .inl rfl⟩⟩, hb⟩
set_option maxRecDepth 100000 in
set_option maxHeartbeats 1000000 in
theorem plainX_int (n : Int) (d : Nat) (hd : d ≤ 400) (hn : i64B n) (w : World) : Calls Tryz.prog 127 #[.iface 2 (.int .i64 n), .int .i64 d] w (fun e w' => e = .returned (.agg #[.int .i64 3, .bool false, .int .i64 n, .float .f64 0, .string ⟨#[]⟩, .slice none 0 0, .int .u64 0, .slice none 0 0, .slice none 0 0, .string ⟨#[]⟩, .int .i64 0]) ∧ Below w.heap.size w w') := by
  have hq : decide ((400 : Int) < (d : Int)) = false := by simp; omega
  have o0 := fun (W : World) (a : Addr) (m : Mode) (x : Nat) => run_store Tryz.prog W a (.float .f64 x) m rfl
  go_enter Tryz.func127, Tryz.ntmps127
  go_wp2
  (try simp only [Exit.inBlock, Exit.then]); refine bodyPost_ret (v := .agg #[.int .i64 3, .bool false, .int .i64 n, .float .f64 0, .string ⟨#[]⟩, .slice none 0 0, .int .u64 0, .slice none 0 0, .slice none 0 0, .string ⟨#[]⟩, .int .i64 0]) (by simp [results, Tryz.results127, go_sem]) rfl ?_
  exact ⟨rfl, ((Below.refl _ _).alloc (Nat.le_refl _) _)⟩
theorem plain_int (n : Int) (d : Nat) (hd : d ≤ 400) (hn : i64B n) (w : World) : Calls Tryz.prog 127 #[.iface 2 (.int .i64 n), .int .i64 d] w (TermPost (plainT (.int n) d) w) := by
  have hT : plainT (.int n) d = .mk 3 false n 0 ⟨#[]⟩ [] 0 [] [] ⟨#[]⟩ 0 := by rw [plainT, if_neg (by omega)]
  rw [hT]
  refine (plainX_int n d hd hn w).mono ?_
  rintro e w' ⟨rfl, hb⟩
  exact ⟨[.int .i64 3, .bool false, .int .i64 n, .float .f64 0, .string ⟨#[]⟩, .slice none 0 0, .int .u64 0, .slice none 0 0, .slice none 0 0, .string ⟨#[]⟩, .int .i64 0], rfl, ⟨none, 0, none, 0, none, 0, rfl, ⟨by decide, by decide⟩, hn, by decide, by decide, ⟨fun _ => rfl, .inl rfl⟩, by decide, by decide, by decide, ⟨by decide, by decide⟩, ⟨by decide, .inl rfl⟩, ⟨by decide, .inl rfl⟩⟩, hb⟩
set_option maxRecDepth 100000 in
set_option maxHeartbeats 1000000 in
theorem plainX_flt (f : Nat) (d : Nat) (hd : d ≤ 400) (w : World) : Calls Tryz.prog 127 #[.iface 22 (.float .f64 f), .int .i64 d] w (fun e w' => e = .returned (.agg #[.int .i64 4, .bool false, .int .i64 0, .float .f64 f, .string ⟨#[]⟩, .slice none 0 0, .int .u64 0, .slice none 0 0, .slice none 0 0, .string ⟨#[]⟩, .int .i64 0]) ∧ Below w.heap.size w w') := by
  have hq : decide ((400 : Int) < (d : Int)) = false := by simp; omega
  have o0 := fun (W : World) (a : Addr) (m : Mode) (x : Nat) => run_store Tryz.prog W a (.float .f64 x) m rfl
  go_enter Tryz.func127, Tryz.ntmps127
  go_wp2
  (try simp only [Exit.inBlock, Exit.then]); refine bodyPost_ret (v := .agg #[.int .i64 4, .bool false, .int .i64 0, .float .f64 f, .string ⟨#[]⟩, .slice none 0 0, .int .u64 0, .slice none 0 0, .slice none 0 0, .string ⟨#[]⟩, .int .i64 0]) (by simp [results, Tryz.results127, go_sem]) rfl ?_
  exact ⟨rfl, ((Below.refl _ _).alloc (Nat.le_refl _) _)⟩
theorem plain_flt (f : Nat) (d : Nat) (hd : d ≤ 400) (w : World) : Calls Tryz.prog 127 #[.iface 22 (.float .f64 f), .int .i64 d] w (TermPost (plainT (.flt f) d) w) := by
  have hT : plainT (.flt f) d = .mk 4 false 0 f ⟨#[]⟩ [] 0 [] [] ⟨#[]⟩ 0 := by rw [plainT, if_neg (by omega)]
  rw [hT]
  refine (plainX_flt f d hd w).mono ?_
  rintro e w' ⟨rfl, hb⟩
  exact ⟨[.int .i64 4, .bool false, .int .i64 0, .float .f64 f, .string ⟨#[]⟩, .slice none 0 0, .int .u64 0, .slice none 0 0, .slice none 0 0, .string ⟨#[]⟩, .int .i64 0], rfl, ⟨none, 0, none, 0, none, 0, rfl, ⟨by decide, by decide⟩, ⟨by decide, by decide⟩, by decide, by decide, ⟨fun _ => rfl, .inl rfl⟩, by decide, by decide, by decide, ⟨by decide, by decide⟩, ⟨by decide, .inl rfl⟩, ⟨by decide, .inl rfl⟩⟩, hb⟩
set_option maxRecDepth 100000 in
set_option maxHeartbeats 1000000 in
theorem plainX_text (s : ByteArray) (d : Nat) (hd : d ≤ 400) (hs : s.size ≤ 140737488351232) (w : World) : Calls Tryz.prog 127 #[.iface 9 (.string s), .int .i64 d] w (fun e w' => e = .returned (.agg #[.int .i64 5, .bool false, .int .i64 0, .float .f64 0, .string s, .slice none 0 0, .int .u64 0, .slice none 0 0, .slice none 0 0, .string ⟨#[]⟩, .int .i64 0]) ∧ Below w.heap.size w w') := by
  have hq : decide ((400 : Int) < (d : Int)) = false := by simp; omega
  have o0 := fun (W : World) (a : Addr) (m : Mode) (x : Nat) => run_store Tryz.prog W a (.float .f64 x) m rfl
  go_enter Tryz.func127, Tryz.ntmps127
  go_wp2
  (try simp only [Exit.inBlock, Exit.then]); refine bodyPost_ret (v := .agg #[.int .i64 5, .bool false, .int .i64 0, .float .f64 0, .string s, .slice none 0 0, .int .u64 0, .slice none 0 0, .slice none 0 0, .string ⟨#[]⟩, .int .i64 0]) (by simp [results, Tryz.results127, go_sem]) rfl ?_
  exact ⟨rfl, ((Below.refl _ _).alloc (Nat.le_refl _) _)⟩
theorem plain_text (s : ByteArray) (d : Nat) (hd : d ≤ 400) (hs : s.size ≤ 140737488351232) (w : World) : Calls Tryz.prog 127 #[.iface 9 (.string s), .int .i64 d] w (TermPost (plainT (.text s) d) w) := by
  have hT : plainT (.text s) d = .mk 5 false 0 0 s [] 0 [] [] ⟨#[]⟩ 0 := by rw [plainT, if_neg (by omega)]
  rw [hT]
  refine (plainX_text s d hd hs w).mono ?_
  rintro e w' ⟨rfl, hb⟩
  exact ⟨[.int .i64 5, .bool false, .int .i64 0, .float .f64 0, .string s, .slice none 0 0, .int .u64 0, .slice none 0 0, .slice none 0 0, .string ⟨#[]⟩, .int .i64 0], rfl, ⟨none, 0, none, 0, none, 0, rfl, ⟨by decide, by decide⟩, ⟨by decide, by decide⟩, hs, by decide, ⟨fun _ => rfl, .inl rfl⟩, by decide, by decide, by decide, ⟨by decide, by decide⟩, ⟨by decide, .inl rfl⟩, ⟨by decide, .inl rfl⟩⟩, hb⟩
set_option maxRecDepth 100000 in
set_option maxHeartbeats 1000000 in
theorem plainX_ref (n : Int) (d : Nat) (hd : d ≤ 400) (hn : 0 ≤ n) (hn2 : n ≤ 18446744073709551615) (w : World) : Calls Tryz.prog 127 #[.iface 25 (.int .u64 n), .int .i64 d] w (fun e w' => e = .returned (.agg #[.int .i64 7, .bool false, .int .i64 0, .float .f64 0, .string ⟨#[]⟩, .slice none 0 0, .int .u64 n, .slice none 0 0, .slice none 0 0, .string ⟨#[]⟩, .int .i64 0]) ∧ Below w.heap.size w w') := by
  have hq : decide ((400 : Int) < (d : Int)) = false := by simp; omega
  have o0 := fun (W : World) (a : Addr) (m : Mode) (x : Nat) => run_store Tryz.prog W a (.float .f64 x) m rfl
  go_enter Tryz.func127, Tryz.ntmps127
  go_wp2
  (try simp only [Exit.inBlock, Exit.then]); refine bodyPost_ret (v := .agg #[.int .i64 7, .bool false, .int .i64 0, .float .f64 0, .string ⟨#[]⟩, .slice none 0 0, .int .u64 n, .slice none 0 0, .slice none 0 0, .string ⟨#[]⟩, .int .i64 0]) (by simp [results, Tryz.results127, go_sem]) rfl ?_
  exact ⟨rfl, ((Below.refl _ _).alloc (Nat.le_refl _) _)⟩
theorem plain_ref (n : Int) (d : Nat) (hd : d ≤ 400) (hn : 0 ≤ n) (hn2 : n ≤ 18446744073709551615) (w : World) : Calls Tryz.prog 127 #[.iface 25 (.int .u64 n), .int .i64 d] w (TermPost (plainT (.ref n) d) w) := by
  have hT : plainT (.ref n) d = .mk 7 false 0 0 ⟨#[]⟩ [] n [] [] ⟨#[]⟩ 0 := by rw [plainT, if_neg (by omega)]
  rw [hT]
  refine (plainX_ref n d hd hn hn2 w).mono ?_
  rintro e w' ⟨rfl, hb⟩
  exact ⟨[.int .i64 7, .bool false, .int .i64 0, .float .f64 0, .string ⟨#[]⟩, .slice none 0 0, .int .u64 n, .slice none 0 0, .slice none 0 0, .string ⟨#[]⟩, .int .i64 0], rfl, ⟨none, 0, none, 0, none, 0, rfl, ⟨by decide, by decide⟩, ⟨by decide, by decide⟩, by decide, by decide, ⟨fun _ => rfl, .inl rfl⟩, hn, hn2, by decide, ⟨by decide, by decide⟩, ⟨by decide, .inl rfl⟩, ⟨by decide, .inl rfl⟩⟩, hb⟩
end Go.Proofs.YtobpkelblpdajaaGreatDoor
