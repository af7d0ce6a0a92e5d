/- Walk: the printer writes many things between brackets. -/
import Derived.Test.YtobpkelblpdajaaGreatDoorTX20
set_option linter.unusedVariables false
set_option linter.unusedSimpArgs false
set_option linter.unusedSectionVars false
namespace Go.Proofs.YtobpkelblpdajaaGreatDoor
open Go Go.RowKit
theorem OwnB.below {w w' : World} {B : Nat} {v : Value} {l : List UInt8} (h : OwnB w B v l) (hb : Below w.heap.size w w') : OwnB w' B v l := ownsRow_below h hb
theorem Pr.below {w w' : World} {B bp : Nat} {ln : Bool} {bs : List UInt8} (h : Pr w B bp ln bs) (hb : Below w.heap.size w w') : Pr w' B bp ln bs := by
  have hlt := h.lt
  rcases h with ⟨hB, v, h1, h2, h3⟩ | ⟨hB, v, h1, h2, h3⟩
  · exact .inl ⟨hB, v, (hb.block _ hlt).trans h1, h2.below hb, h3⟩
  · exact .inr ⟨hB, v, (hb.block _ hlt).trans h1, h2.below hb, h3⟩
theorem PrKept.of_below {B bp : Nat} {w w' : World} (hb : Below w.heap.size w w') (hB : B ≤ w.heap.size) : PrKept B bp w w' :=
  ⟨hb.mono hB, fun k o hk _ _ => (hb.block k (Array.getElem?_eq_some_iff.1 hk).1).trans hk⟩
theorem rep2 (c : Nat) : Lib.repeatL [32, 32] c = List.replicate (2 * c) 32 := by
  induction c with
  | zero => rfl
  | succ c ih => rw [Lib.repeatL, ih, show 2 * (c + 1) = 2 * c + 1 + 1 by omega, List.replicate_succ, List.replicate_succ]; rfl
/- So many things, one behind the other. -/
def eachT (ln : Bool) (bf : Nat → List UInt8) (d : Nat) : Nat → List UInt8
  | 0 => []
  | k + 1 => eachT ln bf d k ++ (sepT ln k d ++ bf k)
theorem rep_any (k : Nat) (x : Int) (hx : x = (k : Int)) (hk : k ≤ 64) (W : World) : Calls Tryz.prog 131 #[.string ⟨#[32, 32]⟩, .int .i64 x] W (fun e w' => e = .returned (.string ⟨(Lib.repeatL [32, 32] k).toArray⟩) ∧ Below W.heap.size W w') := by
  subst hx
  exact Tryz.strings_Repeat ⟨#[32, 32]⟩ k W (by omega) (by show 2 * k ≤ _; omega)
def breakS (d : Nat) : ByteArray := ⟨#[10]⟩ ++ ⟨(Lib.repeatL [32, 32] d).toArray⟩
theorem breakS_list (d : Nat) : (breakS d).data.toList = 10 :: List.replicate (2 * d) 32 := by
  unfold breakS
  rw [rep2]
  simp [ByteArray.data_append]
set_option maxRecDepth 100000 in
set_option maxHeartbeats 4000000 in
theorem many_any (F : FuncId) (cap : Array Value) (hF : ∀ args (W : World), (callFunc F args).run Tryz.prog W = .ok (.enter F args) W) (op sh : UInt8) (oi si : Int) (hoi : oi = (op.toNat : Int)) (hsi : si = (sh.toNat : Int)) (n d B bp : Nat) (ln : Bool) (bs : List UInt8) (bf : Nat → List UInt8) (c : Nat → Nat) (w : World)
    (hE : ∀ (i : Nat) (W : World) (l : List UInt8), i < n → PrKept B bp w W → Pr W B bp ln l → l.length + c i ≤ 140737488355328 → Calls Tryz.prog F (#[.int .i64 i] ++ cap) W (fun e w' => e = .returned (.tuple #[]) ∧ WrotePost B bp ln (l ++ bf i) W w'))
    (h : Pr w B bp ln bs) (hd : d < 64) (hn : n ≤ 4096) (hc : ∀ i, i < n → bs.length + 1 + (eachT ln bf d i).length + 132 + c i ≤ 140737488355328) (hc2 : bs.length + 1 + (eachT ln bf d n).length + 132 + 1 ≤ 140737488355328) :
    Calls Tryz.prog 152 #[.pointer (some ⟨bp, 0, none⟩), .int .u8 oi, .int .u8 si, .int .i64 n, .int .i64 d, .func (.func F) #[] cap] w (fun e w' => e = .returned (.tuple #[]) ∧ WrotePost B bp ln (bs ++ op :: (eachT ln bf d n ++ (closeT ln n d ++ [sh]))) w w') := by
  have hB := h.le
  have hlt := h.lt
  have HW1 := Lib.hid (wbyte_any B bp ln bs op oi w hoi h (by omega))
  have HWB := Lib.hid (fun (l : List UInt8) (x : UInt8) (i : Int) (hi : i = (x.toNat : Int)) (W : World) (hp : Pr W B bp ln l) (hl : l.length + 1 ≤ 140737488355328) => wbyte_any B bp ln l x i W hi hp hl)
  have HWS := Lib.hid (fun (l : List UInt8) (t : ByteArray) (W : World) (hp : Pr W B bp ln l) (hl : l.length + t.size ≤ 140737488355328) => wstring_any B bp ln l t W hp hl)
  have HR := Lib.hid (fun (k : Nat) (x : Int) (hx : x = (k : Int)) (hk : k ≤ 64) (W : World) => rep_any k x hx hk W)
  have kw : IntKind.i64.wrap ((d : Int) + 1) = (d : Int) + 1 := by rw [IntKind.wrap_i64]; omega
  have HE := Lib.hid hE
  have HC := Lib.hid hc
  have HC2 := Lib.hid hc2
  have HSI := Lib.hid hsi
  clear hE h hc hc2 hoi hsi
  go_enter Tryz.func152, Tryz.ntmps152
  go_wp2_with fail
  refine HW1.out.mono ?_
  rintro e w1 ⟨rfl, hp1, hk1⟩
  go_wp2_with fail
  go_loopg [19] n (fun r a wr => ∃ k : Nat, a = .int .i64 k ∧ k + r = n ∧ Pr wr B bp ln (bs ++ op :: eachT ln bf d k) ∧ PrKept B bp w wr)
  case atStart => exact ⟨0, rfl, by omega, hp1, hk1⟩
  case round =>
    obtain ⟨k, rfl, hkr, hpr, hkw⟩ := hrel
    have hsz := hkw.1.size
    have hline := hpr.line
    by_cases hlt2 : k < n
    · have hck := HC.out k hlt2
      have HSl := sepT_len ln k d hd
      have HST : Hid (eachT ln bf d (k + 1) = eachT ln bf d k ++ (sepT ln k d ++ bf k)) := Lib.hid rfl
      obtain ⟨L, hL⟩ : ∃ L, L = bs ++ op :: eachT ln bf d k := ⟨_, rfl⟩
      have hLl : L.length = bs.length + 1 + (eachT ln bf d k).length := by rw [hL]; simp; omega
      rw [← hL] at hpr
      have HL := Lib.hid hL
      clear hL
      obtain ⟨r, rfl⟩ : ∃ r, gk = r + 1 := ⟨gk - 1, by omega⟩
      cases ln
      · by_cases hk0 : k = 0
        · subst hk0
          have HS : Hid (sepT false 0 d = []) := Lib.hid rfl
          go_wp2_with fail
          refine (HE.out 0 wr (L) hlt2 (hkw) hpr (by first | omega | (simp only [List.length_append, List.length_cons, List.length_nil, size_list]; omega))).mono ?_
          rintro e w9 ⟨rfl, hp9, hk9⟩
          go_wp2_with fail
          go_roundg r
          case rel => exact ⟨0 + 1, by go_num, by omega, by rw [HST.out, HS.out]; simpa [HL.out, breakS_list] using hp9, (hkw).trans hk9⟩
          case measure => omega
        · have HS : Hid (sepT false k d = [44, 32]) := Lib.hid (by unfold sepT; rw [if_neg (by decide), if_pos (by omega)])
          go_wp2_with fail
          refine (HWS.out L ⟨#[44, 32]⟩ wr hpr (by show L.length + 2 ≤ _; omega)).mono ?_
          rintro e w2 ⟨rfl, hp2, hk2⟩
          go_wp2_with fail
          refine (HE.out k w2 (L ++ [44, 32]) hlt2 (hkw.trans hk2) hp2 (by first | omega | (simp only [List.length_append, List.length_cons, List.length_nil, size_list]; omega))).mono ?_
          rintro e w9 ⟨rfl, hp9, hk9⟩
          go_wp2_with fail
          go_roundg r
          case rel => exact ⟨k + 1, by go_num, by omega, by rw [HST.out, HS.out]; simpa [HL.out, breakS_list] using hp9, (hkw.trans hk2).trans hk9⟩
          case measure => omega
      · by_cases hk0 : k = 0
        · subst hk0
          have HS : Hid (sepT true 0 d = 10 :: List.replicate (2 * (d + 1)) 32) := Lib.hid rfl
          go_wp2_with fail
          have HRS : (⟨(Lib.repeatL [32, 32] (d + 1)).toArray⟩ : ByteArray).size = 2 * (d + 1) := by rw [← size_list]; simp [rep2]
          have HNl : ¬ (9223372036854775807 < 1 + 2 * (d + 1)) := by omega
          have HBL : (breakS (d + 1)).size = 2 * (d + 1) + 1 := by rw [← size_list, breakS_list]; simp
          refine wp_region_heldS (fun _ => True) 5 (by kernel_rfl) (by kernel_rfl) (fun _ _ _ _ _ h => h) ?_ ?_
          · ((trivial))
          simp only [List.take_succ_cons, List.take_zero]
          repeat (refine HdS.step (fun K hK => ?_); go_simp; first | (refine hK _ ?_; clear hK K) | (apply Exists.intro; refine ⟨fun W hW => ?_, hK _ ?_⟩; (first | (intros; rfl) | ((go_simp; rfl))); clear hK K))
          refine HdS.nil ?_
          simp only [List.drop_succ_cons, List.drop_zero]
          refine SeqS.step (fun K hK => ?_)
          go_simp
          go_at_call 131
          refine (HR.out (d + 1) _ ?hx (by omega) _).mono ?_
          case hx => omega
          rintro e w3 ⟨rfl, hb3⟩
          refine hK _ _ trivial ?_
          clear hK K
          refine SeqS.step (fun K hK => ?_)
          go_simp
          refine hK _ _ trivial ?_
          clear hK K
          refine SeqS.step (fun K hK => ?_)
          go_simp
          go_at_call 148
          have hk3 : PrKept B bp wr w3 := PrKept.of_below ((Below.refl _ _).drew.trans hb3) (Nat.le_trans hB (by have := (hkw).1.size; omega))
          refine (HWS.out (L) (breakS (d + 1)) w3 (hpr.below ((Below.refl _ _).drew.trans hb3)) (by first | omega | (simp only [List.length_append, List.length_cons, List.length_nil, size_list]; omega))).mono ?_
          rintro e w4 ⟨rfl, hp4, hk4a⟩
          have hk4 := hk3.trans hk4a
          clear hk3 hk4a hb3
          refine hK _ _ trivial ?_
          clear hK K
          refine SeqS.nil ?_
          go_wp2_with fail
          refine (HE.out 0 w4 (L ++ (breakS (d + 1)).data.toList) hlt2 (hkw.trans hk4) hp4 (by first | omega | (simp only [List.length_append, List.length_cons, List.length_nil, size_list]; omega))).mono ?_
          rintro e w9 ⟨rfl, hp9, hk9⟩
          go_wp2_with fail
          go_roundg r
          case rel => exact ⟨0 + 1, by go_num, by omega, by rw [HST.out, HS.out]; simpa [HL.out, breakS_list] using hp9, (hkw.trans hk4).trans hk9⟩
          case measure => omega
        · have HS : Hid (sepT true k d = [44] ++ 10 :: List.replicate (2 * (d + 1)) 32) := Lib.hid (by unfold sepT; rw [if_pos rfl, if_pos (by omega)])
          go_wp2_with fail
          refine (HWB.out L 44 44 rfl wr hpr (by omega)).mono ?_
          rintro e w2 ⟨rfl, hp2, hk2⟩
          go_wp2_with fail
          have HRS : (⟨(Lib.repeatL [32, 32] (d + 1)).toArray⟩ : ByteArray).size = 2 * (d + 1) := by rw [← size_list]; simp [rep2]
          have HNl : ¬ (9223372036854775807 < 1 + 2 * (d + 1)) := by omega
          have HBL : (breakS (d + 1)).size = 2 * (d + 1) + 1 := by rw [← size_list, breakS_list]; simp
          refine wp_region_heldS (fun _ => True) 5 (by kernel_rfl) (by kernel_rfl) (fun _ _ _ _ _ h => h) ?_ ?_
          · ((trivial))
          simp only [List.take_succ_cons, List.take_zero]
          repeat (refine HdS.step (fun K hK => ?_); go_simp; first | (refine hK _ ?_; clear hK K) | (apply Exists.intro; refine ⟨fun W hW => ?_, hK _ ?_⟩; (first | (intros; rfl) | ((go_simp; rfl))); clear hK K))
          refine HdS.nil ?_
          simp only [List.drop_succ_cons, List.drop_zero]
          refine SeqS.step (fun K hK => ?_)
          go_simp
          go_at_call 131
          refine (HR.out (d + 1) _ ?hx (by omega) _).mono ?_
          case hx => omega
          rintro e w3 ⟨rfl, hb3⟩
          refine hK _ _ trivial ?_
          clear hK K
          refine SeqS.step (fun K hK => ?_)
          go_simp
          refine hK _ _ trivial ?_
          clear hK K
          refine SeqS.step (fun K hK => ?_)
          go_simp
          go_at_call 148
          have hk3 : PrKept B bp w2 w3 := PrKept.of_below ((Below.refl _ _).drew.trans hb3) (Nat.le_trans hB (by have := (hkw.trans hk2).1.size; omega))
          refine (HWS.out (L ++ [44]) (breakS (d + 1)) w3 (hp2.below ((Below.refl _ _).drew.trans hb3)) (by first | omega | (simp only [List.length_append, List.length_cons, List.length_nil, size_list]; omega))).mono ?_
          rintro e w4 ⟨rfl, hp4, hk4a⟩
          have hk4 := hk3.trans hk4a
          clear hk3 hk4a hb3
          refine hK _ _ trivial ?_
          clear hK K
          refine SeqS.nil ?_
          go_wp2_with fail
          refine (HE.out k w4 (L ++ [44] ++ (breakS (d + 1)).data.toList) hlt2 ((hkw.trans hk2).trans hk4) hp4 (by first | omega | (simp only [List.length_append, List.length_cons, List.length_nil, size_list]; omega))).mono ?_
          rintro e w9 ⟨rfl, hp9, hk9⟩
          go_wp2_with fail
          go_roundg r
          case rel => exact ⟨k + 1, by go_num, by omega, by rw [HST.out, HS.out]; simpa [HL.out, breakS_list] using hp9, ((hkw.trans hk2).trans hk4).trans hk9⟩
          case measure => omega
    · have hr0 : k = n := by omega
      subst hr0
      obtain ⟨L, hL⟩ : ∃ L, L = bs ++ op :: eachT ln bf d k := ⟨_, rfl⟩
      have hLl : L.length = bs.length + 1 + (eachT ln bf d k).length := by rw [hL]; simp; omega
      rw [← hL] at hpr
      have HL := Lib.hid hL
      have hc2 := HC2.out
      clear hL
      have HSl := closeT_len ln k d hd
      by_cases hcl : ln = true ∧ 0 < k
      · obtain ⟨rfl, hk0⟩ := hcl
        have HS : Hid (closeT true k d = 10 :: List.replicate (2 * d) 32) := Lib.hid (by unfold closeT; rw [if_pos ⟨rfl, hk0⟩])
        go_wp2_with fail
        have HRS : (⟨(Lib.repeatL [32, 32] (d)).toArray⟩ : ByteArray).size = 2 * (d) := by rw [← size_list]; simp [rep2]
        have HNl : ¬ (9223372036854775807 < 1 + 2 * (d)) := by omega
        have HBL : (breakS (d)).size = 2 * (d) + 1 := by rw [← size_list, breakS_list]; simp
        refine wp_region_heldS (fun _ => True) 4 (by kernel_rfl) (by kernel_rfl) (fun _ _ _ _ _ h => h) ?_ ?_
        · ((trivial))
        simp only [List.take_succ_cons, List.take_zero]
        repeat (refine HdS.step (fun K hK => ?_); go_simp; first | (refine hK _ ?_; clear hK K) | (apply Exists.intro; refine ⟨fun W hW => ?_, hK _ ?_⟩; (first | (intros; rfl) | ((go_simp; rfl))); clear hK K))
        refine HdS.nil ?_
        simp only [List.drop_succ_cons, List.drop_zero]
        refine SeqS.step (fun K hK => ?_)
        go_simp
        go_at_call 131
        refine (HR.out (d) _ ?hx (by omega) _).mono ?_
        case hx => omega
        rintro e w3 ⟨rfl, hb3⟩
        refine hK _ _ trivial ?_
        clear hK K
        refine SeqS.step (fun K hK => ?_)
        go_simp
        refine hK _ _ trivial ?_
        clear hK K
        refine SeqS.step (fun K hK => ?_)
        go_simp
        go_at_call 148
        have hk3 : PrKept B bp wr w3 := PrKept.of_below ((Below.refl _ _).drew.trans hb3) (Nat.le_trans hB (by have := (hkw).1.size; omega))
        refine (HWS.out (L) (breakS (d)) w3 (hpr.below ((Below.refl _ _).drew.trans hb3)) (by first | omega | (simp only [List.length_append, List.length_cons, List.length_nil, size_list]; omega))).mono ?_
        rintro e w4 ⟨rfl, hp4, hk4a⟩
        have hk4 := hk3.trans hk4a
        clear hk3 hk4a hb3
        refine hK _ _ trivial ?_
        clear hK K
        refine SeqS.nil ?_
        go_wp2_with fail
        refine (HWB.out _ sh si HSI.out w4 hp4 (by simp only [List.length_append, size_list]; omega)).mono ?_
        rintro e w5 ⟨rfl, hp5, hk5⟩
        go_wp2
        go_end0
        exact ⟨rfl, by rw [HS.out]; simpa [HL.out, breakS_list] using hp5, (hkw.trans hk4).trans hk5⟩
      · have HS : Hid (closeT ln k d = []) := Lib.hid (by unfold closeT; rw [if_neg hcl])
        have hcc : ln = false ∨ (ln = true ∧ k = 0) := by cases ln; exact .inl rfl; exact .inr ⟨rfl, by have : ¬ 0 < k := fun h => hcl ⟨rfl, h⟩; omega⟩
        rcases hcc with rfl | ⟨rfl, rfl⟩
        all_goals
          go_wp2_with fail
          refine (HWB.out L sh si HSI.out wr hpr (by omega)).mono ?_
          rintro e w5 ⟨rfl, hp5, hk5⟩
          go_wp2
          go_end0
          exact ⟨rfl, by rw [HS.out]; simpa [HL.out] using hp5, hkw.trans hk5⟩
end Go.Proofs.YtobpkelblpdajaaGreatDoor
/- Walks: the printer writes a value that holds no others. -/
namespace Go.Proofs.YtobpkelblpdajaaGreatDoor
open Go Go.RowKit
attribute [local go_sem] ta_no_bool ta_yes_bool ta_nil_bool ta_no_int64 ta_yes_int64 ta_nil_int64 ta_no_flt ta_yes_flt ta_nil_flt ta_no_str ta_yes_str ta_nil_str ta_no_byt ta_yes_byt ta_nil_byt ta_no_ref ta_yes_ref ta_nil_ref ta_no_lst ta_yes_lst ta_nil_lst ta_no_dct ta_yes_dct ta_nil_dct ta_no_rec ta_yes_rec ta_nil_rec
/- What the text of a value leans on. -/
structure Env (w : World) (B : Nat) : Prop where
  esc : Esc w
  pow : Pow w
  deb : DeB w
  b1 : 1 < B
  b2 : 4 < B
  b3 : 10 < B
theorem Env.below {w w' : World} {B : Nat} (h : Env w B) (hb : Below B w w') : Env w' B :=
  ⟨h.esc.below hb h.b1, h.pow.below hb h.b2, h.deb.below hb h.b3, h.b1, h.b2, h.b3⟩
def ValPost (B bp : Nat) (ln : Bool) (bs : List UInt8) (w : World) (e : Ending) (w' : World) : Prop := e = .returned (.tuple #[]) ∧ WrotePost B bp ln bs w w'
def ValC (ln : Bool) (x : V) : Prop := ∀ (v : Value) (d : Nat) (bs : List UInt8) (B bp : Nat) (w : World), Rd w B x v → Fit x d → d ≤ 64 → Env w B → Pr w B bp ln bs → bs.length + 1048576 * cntV x ≤ 1099511627776 →
  Calls Tryz.prog 99 #[.pointer (some ⟨bp, 0, none⟩), v, .int .i64 d] w (ValPost B bp ln (bs ++ putV ln x d) w)
/- The two boxes that the call makes for what its inner functions see. -/
def boxW (w : World) (bp : Nat) (d : Int) : World := (w.alloc (.cells #[.pointer (some ⟨bp, 0, none⟩)] 189)).alloc (.cells #[.int .i64 d] 3)
theorem below_boxW (w : World) (bp : Nat) (d : Int) : Below w.heap.size w (boxW w bp d) := ((Below.refl _ _).alloc (Nat.le_refl _) _).alloc (by simp) _
theorem boxW_size (w : World) (bp : Nat) (d : Int) : (boxW w bp d).heap.size = w.heap.size + 2 := by simp [boxW]
theorem boxW_p (w : World) (bp : Nat) (d : Int) : (boxW w bp d).heap[w.heap.size]? = some (.cells #[.pointer (some ⟨bp, 0, none⟩)] 189 (0, 0)) := by
  unfold boxW
  rw [Below.heap_alloc _ _ _ (by simp)]
  exact Array.getElem?_push_size
theorem boxW_d (w : World) (bp : Nat) (d : Int) : (boxW w bp d).heap[w.heap.size + 1]? = some (.cells #[.int .i64 d] 3 (0, 0)) := by
  have h : (w.alloc (.cells #[.pointer (some ⟨bp, 0, none⟩)] 189)).heap.size = w.heap.size + 1 := by simp
  unfold boxW
  rw [← h]
  exact Array.getElem?_push_size
theorem box_p {w W : World} {B bp : Nat} {d : Int} (hbp : bp < w.heap.size) (h : PrKept B bp (boxW w bp d) W) : W.cell? ⟨w.heap.size, 0, none⟩ = some (.pointer (some ⟨bp, 0, none⟩)) := by
  rw [Lib.cell_of_heap (h.block (boxW_p w bp d) (by omega) (by intro c fz e; injection e with _ e _; exact absurd e (by decide)))]; rfl
theorem box_d {w W : World} {B bp : Nat} {d : Int} (hbp : bp < w.heap.size) (h : PrKept B bp (boxW w bp d) W) : W.cell? ⟨w.heap.size + 1, 0, none⟩ = some (.int .i64 d) := by
  rw [Lib.cell_of_heap (h.block (boxW_d w bp d) (by omega) (by intro c fz e; injection e with _ e _; exact absurd e (by decide)))]; rfl
theorem PrKept.drew {B bp : Nat} {w w' : World} (h : PrKept B bp w w') : PrKept B bp w w'.drew := ⟨h.1.drew, h.2.drew⟩
theorem quote_tp (t : ByteArray) (w : World) (hE : Esc w) (hl : t.size ≤ 65536) : Calls Tryz.prog 73 #[.string t] w (TextPost (quoteB t.data.toList) w) :=
  quote_any t w hE (Nat.le_trans hl (by decide))
set_option maxRecDepth 100000 in
set_option maxHeartbeats 4000000 in
theorem val_nil (ln : Bool) : ValC ln (.nil) := by
  rintro v d bs B bp w rfl hf hd he hp hlen
  have hlt := hp.lt
  have hle := hp.le
  have HWS := Lib.hid (fun (l : List UInt8) (t : ByteArray) (W : World) (hp : Pr W B bp ln l) (hl : l.length + t.size ≤ 140737488355328) => wstring_any B bp ln l t W hp hl)
  have hb2 := below_boxW w bp d
  have HBX : ∀ W, PrKept B bp (boxW w bp d) W → W.cell? ⟨w.heap.size, 0, none⟩ = some (.pointer (some ⟨bp, 0, none⟩)) := fun W h => box_p hlt h
  have hz2 := boxW_size w bp d
  have hpr := hp.below hb2
  have hk2 : PrKept B bp w (boxW w bp d) := PrKept.of_below hb2 (Nat.le_trans hle (Nat.le_of_lt hlt))
  have he2 := he.below (hb2.mono (Nat.le_trans hle (Nat.le_of_lt hlt)))
  have e3 := HBX _ (PrKept.refl B bp _)
  have HW := Lib.hid (HWS.out bs ⟨#[110, 105, 108]⟩ (boxW w bp d) hpr (by show bs.length + 3 ≤ _; omega))
  clear HWS HBX hb2 hpr he he2 hp
  go_enter Tryz.func99, Tryz.ntmps99
  go_wp2_with fail
  refine HW.out.mono ?_
  rintro e w4 ⟨rfl, hp4, hk4⟩
  go_wp2
  go_end0
  exact ⟨rfl, hp4, hk2.trans hk4⟩
set_option maxRecDepth 100000 in
set_option maxHeartbeats 4000000 in
theorem val_bool (ln : Bool) (b : Bool) : ValC ln (.bool b) := by
  rintro v d bs B bp w rfl hf hd he hp hlen
  have hlt := hp.lt
  have hle := hp.le
  have HWS := Lib.hid (fun (l : List UInt8) (t : ByteArray) (W : World) (hp : Pr W B bp ln l) (hl : l.length + t.size ≤ 140737488355328) => wstring_any B bp ln l t W hp hl)
  have hb2 := below_boxW w bp d
  have HBX : ∀ W, PrKept B bp (boxW w bp d) W → W.cell? ⟨w.heap.size, 0, none⟩ = some (.pointer (some ⟨bp, 0, none⟩)) := fun W h => box_p hlt h
  have hz2 := boxW_size w bp d
  have hpr := hp.below hb2
  have hk2 : PrKept B bp w (boxW w bp d) := PrKept.of_below hb2 (Nat.le_trans hle (Nat.le_of_lt hlt))
  have he2 := he.below (hb2.mono (Nat.le_trans hle (Nat.le_of_lt hlt)))
  have HP := Lib.hid (Fbool b (boxW w bp d).drew)
  have HT : Hid (putV ln (.bool b) d = (if b = true then truB else falB)) := Lib.hid rfl
  have hsz : ((if b = true then truB else falB)).length ≤ 1048576 := by
    have := put_len ln (.bool b) d hf
    simpa only [HT.out, cntV, Nat.mul_one] using this
  simp only [cntV] at hlen
  generalize (if b = true then truB else falB) = L at *
  have HSL : (⟨L.toArray⟩ : ByteArray).size = L.length := by simp [ByteArray.size]
  clear hf he he2
  go_enter Tryz.func99, Tryz.ntmps99
  go_wp2_with fail
  refine wp_region_heldS (fun W => PrKept B bp (boxW w bp d) W) 4 (by kernel_rfl) (by kernel_rfl) (fun _ _ _ _ _ h => h) ?_ ?_
  · ((exact (PrKept.refl B bp _).drew))
  simp only [List.take_succ_cons, List.take_zero]
  repeat (refine HdS.step (fun K hK => ?_); go_simp; first | (refine hK _ ?_; clear hK K) | (apply Exists.intro; refine ⟨fun W hW => ?_, hK _ ?_⟩; (first | (intros; rfl) | ((have e3 := HBX _ hW; go_simp; rfl))); clear hK K))
  refine HdS.nil ?_
  simp only [List.drop_succ_cons, List.drop_zero]
  refine SeqS.step (fun K hK => ?_)
  go_simp
  go_at_call 149
  refine HP.out.mono ?_
  rintro e w3 ⟨rfl, hb3⟩
  have hk3 : PrKept B bp (boxW w bp d) w3 := PrKept.of_below ((Below.refl _ _).drew.trans hb3) (by rw [hz2]; omega)
  refine hK _ _ hk3 ?_
  clear hK K
  refine SeqS.step (fun K hK => ?_)
  go_simp
  go_at_call 148
  refine (HWS.out bs ⟨L.toArray⟩ w3 (hpr.below ((Below.refl _ _).drew.trans hb3)) (by rw [HSL]; omega)).mono ?_
  rintro e w4 ⟨rfl, hp4, hk4⟩
  refine hK _ _ (hk3.trans hk4) ?_
  clear hK K
  refine SeqS.nil ?_
  go_wp2
  go_end0
  exact ⟨rfl, by rw [HT.out]; simpa using hp4, hk2.trans (hk3.trans hk4)⟩
set_option maxRecDepth 100000 in
set_option maxHeartbeats 4000000 in
theorem val_int (ln : Bool) (n : Int) : ValC ln (.int n) := by
  rintro v d bs B bp w ⟨rfl, hn0, hn1⟩ hf hd he hp hlen
  have hlt := hp.lt
  have hle := hp.le
  have HWS := Lib.hid (fun (l : List UInt8) (t : ByteArray) (W : World) (hp : Pr W B bp ln l) (hl : l.length + t.size ≤ 140737488355328) => wstring_any B bp ln l t W hp hl)
  have hb2 := below_boxW w bp d
  have HBX : ∀ W, PrKept B bp (boxW w bp d) W → W.cell? ⟨w.heap.size, 0, none⟩ = some (.pointer (some ⟨bp, 0, none⟩)) := fun W h => box_p hlt h
  have hz2 := boxW_size w bp d
  have hpr := hp.below hb2
  have hk2 : PrKept B bp w (boxW w bp d) := PrKept.of_below hb2 (Nat.le_trans hle (Nat.le_of_lt hlt))
  have he2 := he.below (hb2.mono (Nat.le_trans hle (Nat.le_of_lt hlt)))
  have HP := Lib.hid (Fint10 n hn0 hn1 (boxW w bp d).drew he2.pow)
  have HT : Hid (putV ln (.int n) d = Lib.itoa n) := Lib.hid rfl
  have hsz : (Lib.itoa n).length ≤ 1048576 := by
    have := put_len ln (.int n) d hf
    simpa only [HT.out, cntV, Nat.mul_one] using this
  simp only [cntV] at hlen
  generalize Lib.itoa n = L at *
  have HSL : (⟨L.toArray⟩ : ByteArray).size = L.length := by simp [ByteArray.size]
  clear hf he he2
  go_enter Tryz.func99, Tryz.ntmps99
  go_wp2_with fail
  refine wp_region_heldS (fun W => PrKept B bp (boxW w bp d) W) 4 (by kernel_rfl) (by kernel_rfl) (fun _ _ _ _ _ h => h) ?_ ?_
  · ((exact (PrKept.refl B bp _).drew))
  simp only [List.take_succ_cons, List.take_zero]
  repeat (refine HdS.step (fun K hK => ?_); go_simp; first | (refine hK _ ?_; clear hK K) | (apply Exists.intro; refine ⟨fun W hW => ?_, hK _ ?_⟩; (first | (intros; rfl) | ((have e3 := HBX _ hW; go_simp; rfl))); clear hK K))
  refine HdS.nil ?_
  simp only [List.drop_succ_cons, List.drop_zero]
  refine SeqS.step (fun K hK => ?_)
  go_simp
  go_at_call 150
  refine HP.out.mono ?_
  rintro e w3 ⟨rfl, hb3⟩
  have hk3 : PrKept B bp (boxW w bp d) w3 := PrKept.of_below ((Below.refl _ _).drew.trans hb3) (by rw [hz2]; omega)
  refine hK _ _ hk3 ?_
  clear hK K
  refine SeqS.step (fun K hK => ?_)
  go_simp
  go_at_call 148
  refine (HWS.out bs ⟨L.toArray⟩ w3 (hpr.below ((Below.refl _ _).drew.trans hb3)) (by rw [HSL]; omega)).mono ?_
  rintro e w4 ⟨rfl, hp4, hk4⟩
  refine hK _ _ (hk3.trans hk4) ?_
  clear hK K
  refine SeqS.nil ?_
  go_wp2
  go_end0
  exact ⟨rfl, by rw [HT.out]; simpa using hp4, hk2.trans (hk3.trans hk4)⟩
set_option maxRecDepth 100000 in
set_option maxHeartbeats 4000000 in
theorem val_flt (ln : Bool) (b : Nat) : ValC ln (.flt b) := by
  rintro v d bs B bp w rfl hf hd he hp hlen
  have hlt := hp.lt
  have hle := hp.le
  have HWS := Lib.hid (fun (l : List UInt8) (t : ByteArray) (W : World) (hp : Pr W B bp ln l) (hl : l.length + t.size ≤ 140737488355328) => wstring_any B bp ln l t W hp hl)
  have hb2 := below_boxW w bp d
  have HBX : ∀ W, PrKept B bp (boxW w bp d) W → W.cell? ⟨w.heap.size, 0, none⟩ = some (.pointer (some ⟨bp, 0, none⟩)) := fun W h => box_p hlt h
  have hz2 := boxW_size w bp d
  have hpr := hp.below hb2
  have hk2 : PrKept B bp w (boxW w bp d) := PrKept.of_below hb2 (Nat.le_trans hle (Nat.le_of_lt hlt))
  have he2 := he.below (hb2.mono (Nat.le_trans hle (Nat.le_of_lt hlt)))
  have HP := Lib.hid (tfloat b (boxW w bp d).drew hf he2.deb)
  have HT : Hid (putV ln (.flt b) d = fltT b) := Lib.hid rfl
  have hsz : (fltT b).length ≤ 1048576 := by
    have := put_len ln (.flt b) d hf
    simpa only [HT.out, cntV, Nat.mul_one] using this
  simp only [cntV] at hlen
  generalize fltT b = L at *
  have HSL : (⟨L.toArray⟩ : ByteArray).size = L.length := by simp [ByteArray.size]
  clear hf he he2
  go_enter Tryz.func99, Tryz.ntmps99
  go_wp2_with fail
  refine wp_region_heldS (fun W => PrKept B bp (boxW w bp d) W) 4 (by kernel_rfl) (by kernel_rfl) (fun _ _ _ _ _ h => h) ?_ ?_
  · ((exact (PrKept.refl B bp _).drew))
  simp only [List.take_succ_cons, List.take_zero]
  repeat (refine HdS.step (fun K hK => ?_); go_simp; first | (refine hK _ ?_; clear hK K) | (apply Exists.intro; refine ⟨fun W hW => ?_, hK _ ?_⟩; (first | (intros; rfl) | ((have e3 := HBX _ hW; go_simp; rfl))); clear hK K))
  refine HdS.nil ?_
  simp only [List.drop_succ_cons, List.drop_zero]
  refine SeqS.step (fun K hK => ?_)
  go_simp
  go_at_call 74
  refine HP.out.mono ?_
  rintro e w3 ⟨rfl, hb3⟩
  have hk3 : PrKept B bp (boxW w bp d) w3 := PrKept.of_below ((Below.refl _ _).drew.trans hb3) (by rw [hz2]; omega)
  refine hK _ _ hk3 ?_
  clear hK K
  refine SeqS.step (fun K hK => ?_)
  go_simp
  go_at_call 148
  refine (HWS.out bs ⟨L.toArray⟩ w3 (hpr.below ((Below.refl _ _).drew.trans hb3)) (by rw [HSL]; omega)).mono ?_
  rintro e w4 ⟨rfl, hp4, hk4⟩
  refine hK _ _ (hk3.trans hk4) ?_
  clear hK K
  refine SeqS.nil ?_
  go_wp2
  go_end0
  exact ⟨rfl, by rw [HT.out]; simpa using hp4, hk2.trans (hk3.trans hk4)⟩
set_option maxRecDepth 100000 in
set_option maxHeartbeats 4000000 in
theorem val_text (ln : Bool) (t : ByteArray) : ValC ln (.text t) := by
  rintro v d bs B bp w ⟨rfl, hn0⟩ hf hd he hp hlen
  have hlt := hp.lt
  have hle := hp.le
  have HWS := Lib.hid (fun (l : List UInt8) (t : ByteArray) (W : World) (hp : Pr W B bp ln l) (hl : l.length + t.size ≤ 140737488355328) => wstring_any B bp ln l t W hp hl)
  have hb2 := below_boxW w bp d
  have HBX : ∀ W, PrKept B bp (boxW w bp d) W → W.cell? ⟨w.heap.size, 0, none⟩ = some (.pointer (some ⟨bp, 0, none⟩)) := fun W h => box_p hlt h
  have hz2 := boxW_size w bp d
  have hpr := hp.below hb2
  have hk2 : PrKept B bp w (boxW w bp d) := PrKept.of_below hb2 (Nat.le_trans hle (Nat.le_of_lt hlt))
  have he2 := he.below (hb2.mono (Nat.le_trans hle (Nat.le_of_lt hlt)))
  have HP := Lib.hid (quote_tp t (boxW w bp d).drew he2.esc hf)
  have HT : Hid (putV ln (.text t) d = quoteB t.data.toList) := Lib.hid rfl
  have hsz : (quoteB t.data.toList).length ≤ 1048576 := by
    have := put_len ln (.text t) d hf
    simpa only [HT.out, cntV, Nat.mul_one] using this
  simp only [cntV] at hlen
  generalize quoteB t.data.toList = L at *
  have HSL : (⟨L.toArray⟩ : ByteArray).size = L.length := by simp [ByteArray.size]
  clear hf he he2
  go_enter Tryz.func99, Tryz.ntmps99
  go_wp2_with fail
  refine wp_region_heldS (fun W => PrKept B bp (boxW w bp d) W) 4 (by kernel_rfl) (by kernel_rfl) (fun _ _ _ _ _ h => h) ?_ ?_
  · ((exact (PrKept.refl B bp _).drew))
  simp only [List.take_succ_cons, List.take_zero]
  repeat (refine HdS.step (fun K hK => ?_); go_simp; first | (refine hK _ ?_; clear hK K) | (apply Exists.intro; refine ⟨fun W hW => ?_, hK _ ?_⟩; (first | (intros; rfl) | ((have e3 := HBX _ hW; go_simp; rfl))); clear hK K))
  refine HdS.nil ?_
  simp only [List.drop_succ_cons, List.drop_zero]
  refine SeqS.step (fun K hK => ?_)
  go_simp
  go_at_call 73
  refine HP.out.mono ?_
  rintro e w3 ⟨rfl, hb3⟩
  have hk3 : PrKept B bp (boxW w bp d) w3 := PrKept.of_below ((Below.refl _ _).drew.trans hb3) (by rw [hz2]; omega)
  refine hK _ _ hk3 ?_
  clear hK K
  refine SeqS.step (fun K hK => ?_)
  go_simp
  go_at_call 148
  refine (HWS.out bs ⟨L.toArray⟩ w3 (hpr.below ((Below.refl _ _).drew.trans hb3)) (by rw [HSL]; omega)).mono ?_
  rintro e w4 ⟨rfl, hp4, hk4⟩
  refine hK _ _ (hk3.trans hk4) ?_
  clear hK K
  refine SeqS.nil ?_
  go_wp2
  go_end0
  exact ⟨rfl, by rw [HT.out]; simpa using hp4, hk2.trans (hk3.trans hk4)⟩
end Go.Proofs.YtobpkelblpdajaaGreatDoor
