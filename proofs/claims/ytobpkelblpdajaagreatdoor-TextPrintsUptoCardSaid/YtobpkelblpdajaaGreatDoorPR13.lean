/- Walks: value.field, slices.CompareFunc of dicts, value.order, value.Same. -/
import Derived.Test.YtobpkelblpdajaaGreatDoorPR12
set_option linter.unusedVariables false
set_option linter.unusedSimpArgs false
set_option linter.unusedSectionVars false
namespace Go.Proofs.YtobpkelblpdajaaGreatDoor
open Go Go.RowKit
attribute [local go_sem] ta_no_bool ta_yes_bool ta_nil_bool ta_no_int64 ta_yes_int64 ta_nil_int64 ta_no_flt ta_yes_flt ta_nil_flt ta_no_str ta_yes_str ta_nil_str ta_no_byt ta_yes_byt ta_nil_byt ta_no_ref ta_yes_ref ta_nil_ref ta_no_lst ta_yes_lst ta_nil_lst ta_no_dct ta_yes_dct ta_nil_dct ta_no_rec ta_yes_rec ta_nil_rec ta1_bool ta1_int64 ta1_flt ta1_str ta1_byt ta1_ref ta1_lst ta1_dct ta1_rec
theorem DictAt.get {w : World} {B : Nat} {A : Option Addr} {l : List (ByteArray × V)} (h : DictAt w B A l) {k : Nat} {p : ByteArray × V} (hx : l[k]? = some p) :
    ∃ b off v, A = some ⟨b, off, none⟩ ∧ b < B ∧ w.cell? ⟨b, off + k * 2, none⟩ = some (.string p.1) ∧ p.1.size ≤ 140737488351232 ∧ w.cell? ⟨b, off + k * 2 + 1, none⟩ = some v ∧ Rd w B p.2 v := by
  rcases h with h | ⟨b, off, h1, h2, h3⟩
  · subst h; cases hx
  · obtain ⟨h4, h5, v, hv, hr⟩ := RdD.iff.1 h3 k p hx
    exact ⟨b, off, v, h1, h2, h4, h5, hv, hr⟩
end Go.Proofs.YtobpkelblpdajaaGreatDoor
