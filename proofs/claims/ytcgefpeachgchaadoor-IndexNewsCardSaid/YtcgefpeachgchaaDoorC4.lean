/- For every description of an index: New of the program and New of the document answer the same error, give an index or none alike, and the index is of that description and empty. The row is proved, then the card that ties the listed variables to the program's text. No condition. -/
import Derived.Test.YtcgefpeachgchaaDoorC3
import Derived.Test.YtcgefpeachgchaaDoorRows
import Derived.Test.YtcgefpeachgchaaDoorCards
import Derived.Test.YtcgefpeachgchaaDoorTie
import Derived.ProofKit
import Derived.LaidMore
import Derived.OpenShut
import Derived.ShutString
import Derived.Lib.SmallJoins
import Derived.Stop.LaidErr
import Derived.Stop.Joined
import Derived.SizedLaws
import Derived.SevenTiedAt
namespace Go.Proofs.YtcgefpeachgchaaDoor.indexNews
open Go Go.ChangeShapes Go.WideShapes Go.ChangeAt Go.RowKit Go.Joins Go.Deep
open Go.ChangeMaps (open_string shut_string)
abbrev laid5 : List (String × DataW Unit) := [("math/bits.deBruijn32tab", Rows.laid_math_bits_deBruijn32tab), ("math/bits.deBruijn64tab", Rows.laid_math_bits_deBruijn64tab), ("internal/strconv.uint64pow10", Rows.laid_internal_strconv_uint64pow10), ("strconv.ErrRange", Rows.laid_strconv_ErrRange), ("strconv.ErrSyntax", Rows.laid_strconv_ErrSyntax)]
theorem own : ownKnob Tryd.prog.godebug = none := by kernel_rfl
theorem gRange : Tryd.prog.globalNamed "strconv.ErrRange" = some 1 := by kernel_rfl
theorem tRange : (Tryd.prog.globals[1]?).map (·.type) = some 64 := by kernel_rfl
theorem cells23 : Tryd.prog.cellsOf 23 = 4 := by kernel_rfl
theorem door_met (os : Os) (args : Array Value) : laidMetH Tryd.prog laid5 ((World.doorLaid Tryd.prog 400 os).forCall (fun _ _ => 0) ⟨#[], args, []⟩).memory :=
  laidMetH_of_parts3 (fuel := 8) (laidMet_of_run' 8 (by kernel_rfl) (by kernel_rfl)) (by kernel_rfl) (by kernel_rfl)
theorem star : "*" ++ "errors.errorString" = "*errors.errorString" := by decide
theorem row105 (u : TypeId) (h : Tryd.prog.typeName? 3 u = some "*errors.errorString") : u = 105 :=
  typeName_ptr_named (nm := "errors.errorString") (by rw [star]; kernel_rfl) (by kernel_rfl) (by decide) u (by rw [star]; exact h)
theorem cells107 : Tryd.prog.cellsOf 107 = 1 := by kernel_rfl
theorem cells9 : Tryd.prog.cellsOf 9 = 1 := by kernel_rfl
theorem shut_bool_cell {H : Type} {enc : TypeId × Value → H} {P : Program} {w : World} {base : Nat} {spare : Nat → Bool} {held : Bool} {e : TypeId} (he : P.underlying e = some .bool) {b : Bool} : ∃ n, DataW.trod enc P w base spare held n e [.bool b] = some (.lit (.bool b), []) :=
  ⟨1, by simp [DataW.trod, he]⟩
theorem of_laid {W : World} (h : laidMetH Tryd.prog laid5 W) : ∃ pe, W.cell? ⟨1, 0, none⟩ = some (.iface 105 pe) ∧ 1 < W.heap.size := by
  rw [MakeChecks.laidMetH_plain _ _ _ (by kernel_rfl)] at h
  obtain ⟨a, s, hv, _⟩ := laid_sentinel h.tail.tail.tail gRange tRange Tryd.underlying64 row105 Tryd.underlying105 Tryd.underlying107 rfl rfl Tryd.underlying9 cells107 cells9
  have hc : W.cell? ⟨1, 0, none⟩ = some (.iface 105 (.pointer (some a))) := by simpa using World.var?_cell gRange hv 0
  exact ⟨_, hc, World.block_lt_of_cell? _ _ hc⟩
set_option maxRecDepth 100000 in
theorem lifted (os : Os) (started : os.Started) (H : Type) (enc : TypeId × Value → H) :
    ReturnsInHanded {} Tryd.checked os 3 .any (fun w args => (Rows.indexNewsSpec.pre enc Tryd.prog Tryd.f3 [] false w args ∧ laidMetH Tryd.prog laid5 w) ∧ sizedMet enc Tryd.prog Tryd.f3 (OpenSpec.ofChange Rows.indexNewsSpec) false w args)
      (Rows.indexNewsSpec.post enc Tryd.prog Tryd.f3 false true false false) := by
  refine returnsInHanded_of_change_and (C := Tryd.checked) (X := fun w _ => laidMetH Tryd.prog laid5 w) (fun _ _ _ hh h => h.of_heap hh) own started (by kernel_rfl) Tryd.func3
    (ChangeSpec.witness_shaped (enc := enc) (C := Tryd.checked) (os := os) (X := fun w _ => laidMetH Tryd.prog laid5 w) false (World.doorLaid Tryd.prog 400 os) #[.agg #[.string ByteArray.empty, .string ByteArray.empty, .bool false, .bool false]] 8 rfl (World.shaped_of_RefB (by kernel_rfl) (by kernel_rfl)) (by kernel_rfl) (by kernel_rfl) (by kernel_rfl) (door_met os _)) ?_
  intro W base args ds gs before hval0 hW _ hsz0 hL _
  have hval : ∀ (j : Nat) t v, Tryd.f3.params[j]? = some t → args[j]? = some v → Value.okWide Tryd.prog W .any base t v := hval0
  have hW' := hW
  obtain ⟨p, q, hA0, hV, rfl, hfz, hnd⟩ := hW
  have hA : DataW.TrodAll enc Tryd.prog W 0 (fun _ => true) true Tryd.f3.params.toList args.toList ds p := hA0
  rw [Tryd.params3] at hA hval
  obtain ⟨v0, d0, rfl, rfl, h0⟩ := trodAll_one hA
  obtain ⟨rfl, rfl⟩ := trodVars_none hV
  obtain ⟨c0, c1, c2, c3, y0, y1, y2, y3, m, rfl, rfl, rfl, hy0, hy1, hy2, hy3⟩ := open_agg4 (Tryd.underlying23) (by kernel_rfl) cells23 (hval 0 23 v0 rfl rfl) h0
  obtain ⟨cls, e0, rfl, w0⟩ := DataW.trod_string Tryd.underlying9 hy0
  obtain ⟨way, e1, rfl, w1⟩ := DataW.trod_string Tryd.underlying9 hy1
  obtain ⟨u, e2, rfl⟩ := DataW.trod_bool Tryd.underlying4 hy2
  obtain ⟨v, e3, rfl⟩ := DataW.trod_bool Tryd.underlying4 hy3
  simp only [List.cons.injEq, and_true] at e0 e1 e2 e3
  subst e0; subst e1; subst e2; subst e3
  obtain ⟨pe, hcell, hlt⟩ := of_laid hL
  have hsz : (DataW.weightsEach Tryd.prog [23] [.agg [.lit (.string cls.data.toList), .lit (.string way.data.toList), .lit (.bool u), .lit (.bool v)]]).all (fun x => decide (x ≤ reachBytes)) = true := hsz0
  simp [DataW.weightsEach, DataW.weights, Tryd.underlying23, Tryd.underlying9, reachBytes] at hsz
  obtain ⟨s1, s2⟩ := hsz
  clear hA0 hval0 hsz0
  simp only [List.append_nil] at hW'
  have e1 : Rows.indexNewsSpec.fn H ([.agg [.lit (.string cls.data.toList), .lit (.string way.data.toList), .lit (.bool u), .lit (.bool v)]] ++ []) = { results := [.lit (.bool true)], args := [.agg [.lit (.string cls.data.toList), .lit (.string way.data.toList), .lit (.bool u), .lit (.bool v)]] } := by simp [Rows.indexNewsSpec]
  refine (law_any cls way u v W (of_decide_eq_true s1) (of_decide_eq_true s2) 105 pe hcell hlt).mono fun e W' ⟨he, hb⟩ => ?_
  subst he
  refine ⟨_, rfl, _, _, _, [], [], [], hW', ?_, ?_, ?_, hb.frame _, fun h => by cases h⟩
  · rw [e1]; exact trodAll_mk1 (shut_bool Tryd.underlying4 true)
  · rw [e1]; exact trodAll_mk1 (shut_agg4 (y0 := (.lit (.string cls.data.toList), [])) (y1 := (.lit (.string way.data.toList), [])) (y2 := (.lit (.bool u), [])) (y3 := (.lit (.bool v), [])) Tryd.underlying23 (by kernel_rfl) cells23 (shut_string_cell Tryd.underlying9 w0) (shut_string_cell Tryd.underlying9 w1) (shut_bool_cell Tryd.underlying4) (shut_bool_cell Tryd.underlying4))
  · rw [e1]; rfl
theorem over : Rows.IndexNewsSaid :=
  OpenClaim.holds_of_wide 3 Tryd.f3 rfl rfl rfl rfl rfl rfl rfl ⟨rfl, rfl, rfl, rfl, rfl⟩ rfl rfl rfl rfl rfl (by kernel_rfl) Tryd.func3 (by kernel_rfl)
    (of_decide_eq_true (by kernel_rfl)) (by unfold Func.isWrapper; first | (rw [if_pos (by decide +kernel)]; kernel_rfl) | (rw [if_neg (by decide +kernel)]; exact ⟨rfl, rfl⟩))
    (fun os started H enc _ => lifted os started H enc)
theorem proved : Rows.IndexNewsCardSaid :=
  Claim7.holds_tied_plain_at .later [] [.data, .data, .data, .sentinel, .sentinel] true (true, "7ba595072fd83ea96d7eda2a4640a457baca174ff8b89f196474fb3d81d5d1a6") true
    over (fun _ h => by cases h) (by kernel_rfl) (fun _ h => by cases h) indexNews_row_tie rfl ⟨rfl, rfl⟩ (by kernel_rfl) rfl
    (fun f fn hf hfn => by
      obtain rfl : f = 3 := Option.some.inj ((show Tryd.prog.funcNamed "tenon/tenonlaw16.IndexNews" = some 3 by kernel_rfl).symm.trans hf) |>.symm
      obtain rfl : fn = Tryd.f3 := (Option.some.inj (Tryd.func3.symm.trans hfn)).symm
      exact ⟨by kernel_rfl, fun j t ht => by
        rw [Tryd.params3] at ht
        have hm : t ∈ [23] := by simpa using Array.mem_of_getElem? ht
        have hall : ([23].all fun u => !Tryd.prog.wantsStandIn u) = true := by kernel_rfl
        exact (show Tryd.prog.wantsStandIn t = false by simpa using List.all_eq_true.1 hall t hm)⟩)
    (by kernel_rfl)
#print axioms proved
end Go.Proofs.YtcgefpeachgchaaDoor.indexNews
