/- For any term, string and float, all of bulk at most 1048576: every Print, Lines, Quote and Float is the document's, and the value stays. The row is proved, then the card that ties the listed variables to the program's text. The row is proved, then the card that ties the listed variables to the program's text. No condition. -/
import Derived.Test.YtobpkelblpdajaaGreatDoorPR23
import Derived.Test.YtobpkelblpdajaaGreatDoorPR26
import Derived.Test.YtobpkelblpdajaaGreatDoorRows
import Derived.Lib.LaidU8
import Derived.MakeChecks
import Derived.ChangeSame
import Derived.Test.YtobpkelblpdajaaGreatDoorPR47
import Derived.Test.YtobpkelblpdajaaGreatDoorCards
import Derived.Test.YtobpkelblpdajaaGreatDoorTie
import Derived.ProofKit
import Derived.LaidMore
import Derived.Lay
import Derived.OpenShut
import Derived.ShutString
import Derived.Lib.SmallJoins
import Derived.Stop.Joined
import Derived.SizedLaws
import Derived.SevenTiedAt
import Derived.Carry
import Derived.Deep.DeepHandedRow
import Derived.Laws.Cover2
import Derived.JoinedCond
set_option linter.unusedVariables false
set_option linter.unusedSimpArgs false
set_option linter.unusedSectionVars false
namespace Go.Proofs.YtobpkelblpdajaaGreatDoor
open Go Go.RowKit
theorem glt {W : World} {b o : Nat} {v : Value} (h : W.cell? ⟨b, o, none⟩ = some v) : b < W.heap.size := World.block_lt_of_cell? _ _ h
theorem two_of {cs : List Value} (h : cs.length = 2) : ∃ a b, cs = [a, b] := by
  match cs, h with
  | [a, b], _ => exact ⟨a, b, rfl⟩
theorem ten_of {cs : List Value} (h : cs.length = 10) : ∃ d0 d1 d2 d3 d4 d5 d6 d7 d8 d9, cs = [d0, d1, d2, d3, d4, d5, d6, d7, d8, d9] := by
  match cs, h with
  | [d0, d1, d2, d3, d4, d5, d6, d7, d8, d9], _ => exact ⟨d0, d1, d2, d3, d4, d5, d6, d7, d8, d9, rfl⟩
theorem escPair {W : World} {fuel : Nat} {cs : List Value} {a b : Int} {p : List MemPlace} (h : DataW.trod (fun _ => ()) Tryz.prog W 0 (fun _ => true) false fuel 238 cs = some (.agg [.lit (.int .u8 a), .lit (.int .u8 b)], p)) : cs = [.int .u8 a, .int .u8 b] := by
  obtain ⟨y0, y1, n, hx, hl, h0, h1⟩ := ChangeShapes.trod_struct2 Tryz.underlying238 h
  have k2 : Tryz.prog.cellsOf 238 = 2 := by kernel_rfl
  have k1 : Tryz.prog.cellsOf 5 = 1 := by kernel_rfl
  rw [k2] at hl
  obtain ⟨c0, c1, rfl⟩ := two_of hl
  clear k2
  · simp only [k1, List.drop_zero, List.take_succ_cons, List.take_zero, List.drop_succ_cons] at h0 h1
    obtain ⟨z0, e0, rfl, -⟩ := DataW.trod_int Tryz.underlying5 h0
    obtain ⟨z1, e1, rfl, -⟩ := DataW.trod_int Tryz.underlying5 h1
    simp at hx e0 e1
    obtain ⟨⟨rfl, rfl⟩, -⟩ := hx
    rw [e0, e1]
theorem esc_cells {W : World} {fuel : Nat} {cs : List Value} {p : List MemPlace} (h : DataW.trod (fun _ => ()) Tryz.prog W 0 (fun _ => true) false fuel 239 cs = some (Rows.laid_tenon_text_escapes, p)) : cs = escTab.map fun x => Value.int .u8 x := by
  have k2 : Tryz.prog.cellsOf 238 = 2 := by kernel_rfl
  have k10 : Tryz.prog.cellsOf 239 = 10 := by kernel_rfl
  cases fuel with
  | zero => simp [DataW.trod] at h
  | succ fuel =>
    simp only [DataW.trod, Tryz.underlying239, k2, k10] at h
    split at h
    · rename_i hl
      have hl10 : cs.length = 10 := by omega
      obtain ⟨xs, hm, hx⟩ := Option.map_eq_some_iff.1 h
      have hxs : xs.map (·.1) = [.agg [.lit (.int .u8 34), .lit (.int .u8 34)], .agg [.lit (.int .u8 92), .lit (.int .u8 92)], .agg [.lit (.int .u8 10), .lit (.int .u8 110)], .agg [.lit (.int .u8 9), .lit (.int .u8 116)], .agg [.lit (.int .u8 13), .lit (.int .u8 114)]] := by
        have := congrArg Prod.fst hx
        simpa [Rows.laid_tenon_text_escapes] using this
      have key : ∀ (i : Nat) (a b : Int), i < 5 → (xs.map (·.1))[i]? = some (.agg [.lit (.int .u8 a), .lit (.int .u8 b)]) → (cs.drop (i * 2)).take 2 = [.int .u8 a, .int .u8 b] := by
        intro i a b hi hab
        obtain ⟨y, hy, hf⟩ := Lib.mapM_at hm i i (by simp [hi])
        rw [List.getElem?_map, hy] at hab
        obtain ⟨y1, y2⟩ := y
        simp at hab
        subst hab
        exact escPair hf
      have c0 := key 0 34 34 (by decide) (by rw [hxs]; rfl)
      have c1 := key 1 92 92 (by decide) (by rw [hxs]; rfl)
      have c2 := key 2 10 110 (by decide) (by rw [hxs]; rfl)
      have c3 := key 3 9 116 (by decide) (by rw [hxs]; rfl)
      have c4 := key 4 13 114 (by decide) (by rw [hxs]; rfl)
      obtain ⟨d0, d1, d2, d3, d4, d5, d6, d7, d8, d9, rfl⟩ := ten_of hl10
      · simp at c0 c1 c2 c3 c4
        obtain ⟨rfl, rfl⟩ := c0
        obtain ⟨rfl, rfl⟩ := c1
        obtain ⟨rfl, rfl⟩ := c2
        obtain ⟨rfl, rfl⟩ := c3
        obtain ⟨rfl, rfl⟩ := c4
        rfl
    · cases h
theorem env_of {laid : List (String × DataW Unit)} {W : World} (h : laidMet Tryz.prog laid W) (h1 : ("tenon/text.escapes", Rows.laid_tenon_text_escapes) ∈ laid) (h2 : ("internal/strconv.uint64pow10", Rows.laid_internal_strconv_uint64pow10) ∈ laid) (h3 : ("math/bits.deBruijn64tab", Rows.laid_math_bits_deBruijn64tab) ∈ laid) : Env W W.heap.size := by
  have e1 : ∀ (j : Nat) (x : Int), escTab[j]? = some x → W.cell? ⟨1, j, none⟩ = some (.int .u8 x) := by
    obtain ⟨g, t, cs, fuel, p, hg, ht, hv, hd⟩ := Lib.laidMet.reads h h1
    have hg2 : Tryz.prog.globalNamed "tenon/text.escapes" = some 1 := by kernel_rfl
    obtain rfl := Option.some.inj (hg2.symm.trans hg)
    have ht2 : (Tryz.prog.globals[1]?).map (·.type) = some 239 := by kernel_rfl
    obtain rfl := Option.some.inj (ht2.symm.trans ht)
    have hcs := esc_cells hd
    intro j x hj
    rw [World.var?_cell hg hv j, ← Array.getElem?_toList, hcs, List.getElem?_map, hj]
    rfl
  have e2 : Lib.TabIs Tryz.prog W "internal/strconv.uint64pow10" .u64 Lib.pow10Tab := by
    obtain ⟨g, t, cs, fuel, p, hg, ht, hv, hd⟩ := Lib.laidMet.reads h h2
    obtain rfl := Option.some.inj (Tryz.gPow.symm.trans hg)
    have ht2 : (Tryz.prog.globals[4]?).map (·.type) = some 376 := by kernel_rfl
    obtain rfl := Option.some.inj (ht2.symm.trans ht)
    unfold Lib.TabIs
    rw [hv, ← Lib.cells_of_tab (zs := Lib.pow10Tab) (k := .u64) (n := 20) Tryz.underlying376 Tryz.underlying24 (by kernel_rfl) (by kernel_rfl) (by rw [show (Lib.tabData .u64 Lib.pow10Tab : DataW Unit) = Rows.laid_internal_strconv_uint64pow10 from rfl]; exact hd)]
  have e3 : W.cell? ⟨10, 15, none⟩ = some (.int .u8 4) := by
    obtain ⟨g, t, cs, fuel, p, hg, ht, hv, hd⟩ := Lib.laidMet.reads h h3
    have hg2 : Tryz.prog.globalNamed "math/bits.deBruijn64tab" = some 10 := by kernel_rfl
    obtain rfl := Option.some.inj (hg2.symm.trans hg)
    have ht2 : (Tryz.prog.globals[10]?).map (·.type) = some 430 := by kernel_rfl
    obtain rfl := Option.some.inj (ht2.symm.trans ht)
    have hcs := Lib.cells_of_tab (zs := [0, 1, 56, 2, 57, 49, 28, 3, 61, 58, 42, 50, 38, 29, 17, 4, 62, 47, 59, 36, 45, 43, 51, 22, 53, 39, 33, 30, 24, 18, 12, 5, 63, 55, 48, 27, 60, 41, 37, 16, 46, 35, 44, 21, 52, 32, 23, 11, 54, 26, 40, 15, 34, 20, 31, 10, 25, 14, 19, 9, 13, 8, 7, 6]) (k := .u8) (n := 64) Tryz.underlying430 Tryz.underlying5 (by kernel_rfl) (by kernel_rfl) (by rw [show (Lib.tabData .u8 [0, 1, 56, 2, 57, 49, 28, 3, 61, 58, 42, 50, 38, 29, 17, 4, 62, 47, 59, 36, 45, 43, 51, 22, 53, 39, 33, 30, 24, 18, 12, 5, 63, 55, 48, 27, 60, 41, 37, 16, 46, 35, 44, 21, 52, 32, 23, 11, 54, 26, 40, 15, 34, 20, 31, 10, 25, 14, 19, 9, 13, 8, 7, 6] : DataW Unit) = Rows.laid_math_bits_deBruijn64tab from rfl]; exact hd)
    rw [World.var?_cell hg hv 15, ← Array.getElem?_toList, hcs]
    rfl
  have b1 := glt (e1 0 34 rfl)
  have b2 := glt (Lib.TabIs.cell e2 Tryz.gPow 0 (by rw [Lib.pow10Tab_length]; decide))
  have b3 := glt e3
  exact ⟨⟨b1, e1⟩, ⟨b2, e2⟩, ⟨b3, e3⟩, b1, b2, b3⟩
end Go.Proofs.YtobpkelblpdajaaGreatDoor
/- For any term, string and float, all of bulk at most 1048576: every Print, Lines, Quote and Float is the document's, and the value stays. The row is proved, then the card that ties the listed variables to the program's text. The row is proved, then the card that ties the listed variables to the program's text. No condition. -/
namespace Go.Proofs.YtobpkelblpdajaaGreatDoor.textPrints
open Go Go.ChangeShapes Go.WideShapes Go.ChangeAt Go.RowKit Go.Joins Go.Deep
open Go.ChangeMaps (open_string shut_string)
theorem own : ownKnob Tryz.prog.godebug = none := by kernel_rfl
theorem laidOut : laidOutB Tryz.prog = true := by kernel_rfl
theorem agg_of {v : Value} {n : Nat} (h : v.cells.toList.length = n) (hn : n ≠ 1) : v = termOf v.cells.toList := by
  cases v <;> first | rfl | (exact absurd h (by simpa [Value.cells] using (Ne.symm hn)))
theorem bulk_pos {H : Type} (d : DataW H) : 1 ≤ Rows.uptoBulk d := by
  cases d with
  | lit l => cases l <;> simp [Rows.uptoBulk]
  | _ => simp [Rows.uptoBulk]
theorem witness_row_shaped {H : Type} {enc : TypeId × Value → H} {C : Checked} {os : Os} {f : FuncId} {fn : Func} {s : OpenSpec} {conds : List PathCond} {apart : Bool} {laid : List (String × DataW Unit)} (modest : Bool) (w0 : World) (args : Array Value) (hos : w0.os = os)
    (hsh : (w0.forCall (fun _ _ => 0) ⟨#[], args, []⟩).Shaped C.prog)
    (hok : Input.okWideB C.prog (w0.forCall (fun _ _ => 0) ⟨#[], args, []⟩) f ⟨#[], args, []⟩ = true)
    (hrow : s.preRow enc C.prog fn conds apart laid (w0.forCall (fun _ _ => 0) ⟨#[], args, []⟩).memory args) :
    ∃ (w : World) (tape : Tape) (i : Input), w.os = os ∧ (w.forCall tape i).Shaped C.prog ∧ i.vars = [] ∧ Input.okWide C.prog (w.forCall tape i) .any w.heap.size f i ∧
      s.preRow enc C.prog fn conds apart laid (w.forCall tape i).memory i.args ∧ ({ modest := modest } : Assume).holds C.prog (lone (Frame.enter C.prog f i.args .normal) [] (w.forCall tape i)) :=
  ⟨w0, fun _ _ => 0, ⟨#[], args, []⟩, hos, hsh, (Input.okWide_of_okWideB (base := 0) hok).1, (Input.okWide_of_okWideB hok).2, hrow, by
    simp only [Assume.holds]
    exact ⟨by simp, by simp, fun _ => Modest.zero, by simp, by simp⟩⟩
theorem laid_met (os : Os) (args : Array Value) : laidMetH Tryz.prog Rows.textPrintsUptoRow.laid ((World.laidAll Tryz.prog os Rows.textPrintsUptoRow.laid).forCall (fun _ _ => 0) ⟨#[], args, []⟩).memory := by
  rw [MakeChecks.laidMetH_plain _ _ _ (by kernel_rfl)]
  exact laidMet_laidAll _ (by kernel_rfl) (by kernel_rfl)
noncomputable def witnessRead (H : Type) (enc : TypeId × Value → H) (os : Os) : Option (List (DataW H) × List (DataW H) × List MemPlace) :=
  DataW.whole enc Tryz.prog ((World.laidAll Tryz.prog os Rows.textPrintsUptoRow.laid).forCall (fun _ _ => 0) ⟨#[], #[.agg #[.int .i64 0, .bool false, .int .i64 0, .float .f64 0, .string ByteArray.empty, .slice none 0 0, .int .u64 0, .slice none 0 0, .slice none 0 0, .string ByteArray.empty, .int .i64 0], .string ByteArray.empty, .float .f64 0], []⟩).memory Tryz.f5.params.toList Rows.textPrintsSpec.vars false #[.agg #[.int .i64 0, .bool false, .int .i64 0, .float .f64 0, .string ByteArray.empty, .slice none 0 0, .int .u64 0, .slice none 0 0, .slice none 0 0, .string ByteArray.empty, .int .i64 0], .string ByteArray.empty, .float .f64 0].toList 8
theorem witness_some (H : Type) (enc : TypeId × Value → H) (os : Os) : (witnessRead H enc os).isSome = true := by kernel_rfl
theorem witness_get (H : Type) (enc : TypeId × Value → H) (os : Os) : witnessRead H enc os = some ((witnessRead H enc os).get (witness_some H enc os)) := (Option.some_get _).symm
set_option maxRecDepth 100000 in
set_option maxHeartbeats 4000000 in
theorem lifted (os : Os) (started : os.Started) (H : Type) (enc : TypeId × Value → H) (F : Stop.Interp) :
    ReturnsInHanded {} Tryz.checked os 5 .any ((Rows.OpenSpec.upto Rows.textPrintsSpec).preRow enc Tryz.prog Tryz.f5 Rows.textPrintsUptoRow.domain false Rows.textPrintsUptoRow.laid) (((Rows.OpenSpec.upto Rows.textPrintsSpec).at F).post enc Tryz.prog Tryz.f5 false true false false) := by
  refine returnsInHanded_of_row (C := Tryz.checked) (s := Rows.OpenSpec.upto Rows.textPrintsSpec) own started (by kernel_rfl) Tryz.func5
    (witness_row_shaped (enc := enc) (C := Tryz.checked) false (World.laidAll Tryz.prog os Rows.textPrintsUptoRow.laid) #[.agg #[.int .i64 0, .bool false, .int .i64 0, .float .f64 0, .string ByteArray.empty, .slice none 0 0, .int .u64 0, .slice none 0 0, .slice none 0 0, .string ByteArray.empty, .int .i64 0], .string ByteArray.empty, .float .f64 0] (World.laidAll_os _ _ _) (World.shaped_of_ZipB (by kernel_rfl) (by kernel_rfl)) (by kernel_rfl)
      (OpenSpec.preRow_of_cond 8 (witness_get H enc os) (by kernel_rfl) (fun k hk => by cases hk; kernel_rfl) (by kernel_rfl) (laid_met os _))) ?_
  intro W base args ds gs before hval0 hW _ hcond hsz0 hL _ _
  have hval : ∀ (j : Nat) t v, Tryz.f5.params[j]? = some t → args[j]? = some v → Value.okWide Tryz.prog W .any base t v := hval0
  have hW' := hW
  obtain ⟨p, q, hA0, hV, rfl, hfz, hnd⟩ := hW
  have hA : DataW.TrodAll enc Tryz.prog W 0 (fun _ => true) true Tryz.f5.params.toList args.toList ds p := hA0
  rw [Tryz.params5] at hA hval
  obtain ⟨v0, vs0, d0, ds0, p0, q0, hargs, rfl, rfl, h0, r0⟩ := trodAll_cons hA
  obtain ⟨v1, vs1, d1, ds1, p1, q1, rfl, rfl, rfl, h1, r1⟩ := trodAll_cons r0
  obtain ⟨v2, vs2, d2, ds2, p2, q2, rfl, rfl, rfl, h2, r2⟩ := trodAll_cons r1
  obtain ⟨rfl, rfl, rfl⟩ := trodAll_nil r2
  obtain ⟨rfl, rfl⟩ := trodVars_none hV
  have hargs2 : args = #[v0, v1, v2] := by
    cases args with
    | mk l => exact congrArg Array.mk hargs
  subst hargs2
  have hbd : Rows.uptoBulkAll [d0, d1, d2] ≤ 1048576 := of_decide_eq_true (hcond _ rfl)
  simp only [Rows.uptoBulkAll] at hbd
  have hsz : ∀ m ∈ DataW.weightsEach Tryz.prog [29, 9, 22] [d0, d1, d2], m ≤ reachBytes := by
    intro m hm
    have h1 : (DataW.weightsEach Tryz.prog [29, 9, 22] [d0, d1, d2]).all (fun x => decide (x ≤ reachBytes)) = true := hsz0
    exact of_decide_eq_true (List.all_eq_true.1 h1 m hm)
  have hlt : ∀ x ∈ (p0 ++ (p1 ++ (p2 ++ []))) ++ [], x.block < W.heap.size := fun x hx => by simpa using hW'.lt x hx
  have a0 : DataW.Trod enc Tryz.prog W 0 (fun _ => true) true 29 v0 d0 p0 := h0
  obtain ⟨n0, t0⟩ := h0
  obtain ⟨x0, hx0, hft0⟩ := open_tmF _ _ _ t0 (fun m hm => hsz m (weightsEach_mem (i := 0) rfl rfl m hm))
  have e0 := agg_of (v := v0) (n := 11) (by obtain ⟨c0, c1, c2, c3, c4, c5, c6, c7, c8, c9, c10, h, -⟩ := hx0.eleven; rw [h]; rfl) (by decide)
  have a1 : DataW.Trod enc Tryz.prog W 0 (fun _ => true) true 9 v1 d1 p1 := h1
  obtain ⟨y1, rfl, rfl, rfl, wf1⟩ := open_string Tryz.underlying9 (hval 1 9 v1 rfl rfl) h1
  have a2 : DataW.Trod enc Tryz.prog W 0 (fun _ => true) true 22 v2 d2 p2 := h2
  obtain ⟨y2, rfl, rfl, rfl, wf2⟩ := open_float Tryz.underlying22 (hval 2 22 v2 rfl rfl) h2
  have hs1 : y1.size ≤ 1048576 := by have h1 := hbd; simp only [Rows.uptoBulk] at h1; have h2 : y1.data.toList.length = y1.size := Array.length_toList; omega
  have hb2 : y2 < 18446744073709551616 := by simpa [Lit.wf] using wf2
  have henv : Env W W.heap.size := env_of (by have h := hL; rw [MakeChecks.laidMetH_plain _ _ _ (by kernel_rfl)] at h; exact h) (List.mem_of_getElem? (i := 4) rfl) (List.mem_of_getElem? (i := 3) rfl) (List.mem_of_getElem? (i := 1) rfl)
  have hlaw : Calls Tryz.prog 5 #[v0, (.string y1), (.float .f64 y2)] W (BoolPost true W) := by
    rw [e0]
    exact prints_any x0 _ _ _ W hx0 hft0 henv (by omega) hb2
  have e1 : ((Rows.OpenSpec.upto Rows.textPrintsSpec).at F).fn H ([d0, (.lit (.string y1.data.toList)), (.lit (.float .f64 y2))] ++ []) = { results := [.lit (.bool true)], args := [d0, (.lit (.string y1.data.toList)), (.lit (.float .f64 y2))] } := by show Rows.textPrintsSpec.fn H _ = _; simp [Rows.textPrintsSpec]
  refine hlaw.mono fun e W' ⟨he, hb⟩ => ?_
  subst he
  refine ⟨_, rfl, _, _, _, [], p0 ++ ([] ++ ([] ++ [])), [], hW', ?_, ?_, ?_, hb.frame _, fun h => by cases h⟩
  · rw [e1]; exact trodAll_mk1 (shut_bool Tryz.underlying4 true)
  · rw [e1]
    have hbt := fun (t : TypeId) (v : Value) (d : DataW H) (pp : List MemPlace) (hr : Tryz.prog.readableRec t = true) (hrow : t < Tryz.prog.types.size) (h : DataW.Trod enc Tryz.prog W 0 (fun _ => true) true t v d pp) (hl : ∀ x ∈ pp, x.block < W.heap.size) => Below.trod laidOut hr hrow h hb hl
    exact trodAll_cons_mk (hbt 29 v0 d0 p0 (by kernel_rfl) (of_decide_eq_true (by kernel_rfl)) a0 (fun x hx => hlt x (by simp [hx]))) (trodAll_cons_mk (hbt 9 (.string y1) (.lit (.string y1.data.toList)) [] (by kernel_rfl) (of_decide_eq_true (by kernel_rfl)) a1 (fun x hx => by cases hx)) (trodAll_cons_mk (hbt 22 (.float .f64 y2) (.lit (.float .f64 y2)) [] (by kernel_rfl) (of_decide_eq_true (by kernel_rfl)) a2 (fun x hx => by cases hx)) (trodAll_mk0)))
  · rw [e1]; rfl
end Go.Proofs.YtobpkelblpdajaaGreatDoor.textPrints
/- The row, out of its lifted proof. -/
namespace Go.Proofs.YtobpkelblpdajaaGreatDoor.textPrints
open Go Go.ChangeShapes Go.WideShapes Go.ChangeAt Go.RowKit Go.Joins Go.Deep
open Go.ChangeMaps (open_string shut_string)
theorem kLaid : laidOutB Tryz.prog = true := by kernel_rfl
theorem kMaps : mapsRowed Tryz.prog = true := by kernel_rfl
theorem kPlace : (Rows.textPrintsUptoRow.inPlace == Tryz.prog.inPlace 5) = true := by kernel_rfl
theorem kUnf : (Rows.textPrintsUptoRow.unfollowed == Tryz.prog.unfollowed 5) = true := by kernel_rfl
theorem kRec : (Rows.textPrintsUptoRow.recurses == Tryz.prog.recurses 5) = true := by kernel_rfl
theorem kNamed : (Rows.textPrintsUptoRow.named == Tryz.prog.varsNamed 5) = true := by kernel_rfl
theorem kName : Tryz.pinned.checked.prog.funcNamed Rows.textPrintsUptoRow.func = some 5 := by kernel_rfl
theorem closed : joinedFacts Tryz.prog 5 Tryz.f5 (Rows.OpenSpec.upto Rows.textPrintsSpec).bare Rows.textPrintsUptoRow = true := by
  unfold joinedFacts
  rw [kLaid, kMaps, kPlace, kUnf, kRec, kNamed]
  kernel_rfl
theorem over : Rows.TextPrintsUptoSaid :=
  OpenClaim.holds_of_cond 5 Tryz.f5 rfl rfl rfl rfl rfl rfl rfl ⟨rfl, rfl, rfl, rfl, rfl⟩ rfl rfl rfl rfl rfl kName Tryz.func5 closed
    (of_decide_eq_true (by kernel_rfl)) (by unfold Func.isWrapper; first | (rw [if_pos (by decide +kernel)]; kernel_rfl) | (rw [if_neg (by decide +kernel)]; exact ⟨rfl, rfl⟩))
    (fun os started H enc _ F => by rw [OpenClaim.pre_eq_preRow]; exact lifted os started H enc F)
end Go.Proofs.YtobpkelblpdajaaGreatDoor.textPrints
/- For any term, string and float, all of bulk at most 1048576: every Print, Lines, Quote and Float is the document's, and the value stays. The row is proved, then the card that ties the listed variables to the program's text. The row is proved, then the card that ties the listed variables to the program's text. No condition. -/
namespace Go.Proofs.YtobpkelblpdajaaGreatDoor.textPrints
open Go Go.ChangeShapes Go.WideShapes Go.ChangeAt Go.RowKit Go.Joins Go.Deep
open Go.ChangeMaps (open_string shut_string)
theorem kWf : Rows.textPrintsUptoRow.wfByText (Rows.OpenSpec.upto Rows.textPrintsSpec) = true := by kernel_rfl
theorem kMain : Tryz.pinned.checked.prog.mainIs = some (true, "1e7af884c82236b1f819144138f9f70fb0ce697dc9e161157c72eaba5b7c3a2f".toList) := by kernel_rfl
theorem kLooks : true = Tryz.prog.looks [] := by kernel_rfl
theorem kGoes : false = Rows.textPrintsUptoRow.goesBy Tryz.prog := by kernel_rfl
theorem kStand : ([29, 9, 22].all fun u => !Tryz.prog.wantsStandIn u) = true := by kernel_rfl
theorem kFunc : Tryz.prog.funcNamed "tenon/tenonlaw02.TextPrints" = some 5 := by kernel_rfl
theorem proved : Rows.TextPrintsUptoCardSaid :=
  Claim7.holds_tied_plain_at .later [] [.data, .data, .data, .data, .data, .pinned, .pinned] true (true, "1e7af884c82236b1f819144138f9f70fb0ce697dc9e161157c72eaba5b7c3a2f") true
    over (fun _ h => by cases h) kWf (fun _ h => by cases h) textPrintsUpto_row_tie rfl ⟨rfl, rfl⟩ kMain rfl
    (fun f fn hf hfn => by
      obtain rfl : f = 5 := Option.some.inj (kFunc.symm.trans hf) |>.symm
      obtain rfl : fn = Tryz.f5 := (Option.some.inj (Tryz.func5.symm.trans hfn)).symm
      exact ⟨kLooks, fun j t ht => by
        rw [Tryz.params5] at ht
        have hm : t ∈ [29, 9, 22] := by simpa using Array.mem_of_getElem? ht
        exact (show Tryz.prog.wantsStandIn t = false by simpa using List.all_eq_true.1 kStand t hm)⟩)
    kGoes
#print axioms proved
end Go.Proofs.YtobpkelblpdajaaGreatDoor.textPrints
