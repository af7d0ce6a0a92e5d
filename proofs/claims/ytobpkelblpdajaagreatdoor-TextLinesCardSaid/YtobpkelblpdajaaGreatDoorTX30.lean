/- The term of a value (mk.Plain), as a plain function; walks: the leaves. -/
import Derived.Test.YtobpkelblpdajaaGreatDoorTX10
set_option linter.unusedVariables false
set_option linter.unusedSimpArgs false
set_option linter.unusedSectionVars false
namespace Go.Proofs.YtobpkelblpdajaaGreatDoor
open Go Go.RowKit
attribute [local go_sem] ta_no_bool ta_yes_bool ta_nil_bool ta_no_int64 ta_yes_int64 ta_nil_int64 ta_no_flt ta_yes_flt ta_nil_flt ta_no_str ta_yes_str ta_nil_str ta_no_byt ta_yes_byt ta_nil_byt ta_no_ref ta_yes_ref ta_nil_ref ta_no_lst ta_yes_lst ta_nil_lst ta_no_dct ta_yes_dct ta_nil_dct ta_no_rec ta_yes_rec ta_nil_rec
mutual
/- The term of a value, so deep and no deeper. -/
def plainT : V → Nat → Tm
  | x, d => if 400 < d then .mk 0 false 0 0 ⟨#[]⟩ [] 0 [] [] ⟨#[]⟩ 0 else match x with
    | .nil => .mk 1 false 0 0 ⟨#[]⟩ [] 0 [] [] ⟨#[]⟩ 0
    | .bool b => .mk 2 b 0 0 ⟨#[]⟩ [] 0 [] [] ⟨#[]⟩ 0
    | .int n => .mk 3 false n 0 ⟨#[]⟩ [] 0 [] [] ⟨#[]⟩ 0
    | .flt f => .mk 4 false 0 f ⟨#[]⟩ [] 0 [] [] ⟨#[]⟩ 0
    | .text s => .mk 5 false 0 0 s [] 0 [] [] ⟨#[]⟩ 0
    | .bytes l => .mk 6 false 0 0 ⟨#[]⟩ l 0 [] [] ⟨#[]⟩ 0
    | .ref n => .mk 7 false 0 0 ⟨#[]⟩ [] n [] [] ⟨#[]⟩ 0
    | .list l => .mk 8 false 0 0 ⟨#[]⟩ [] 0 (plainL l (d + 1)) [] ⟨#[]⟩ 0
    | .dict l => .mk 9 false 0 0 ⟨#[]⟩ [] 0 [] (plainD l (d + 1)) ⟨#[]⟩ 0
    | .record c v l => .mk 10 false 0 0 ⟨#[]⟩ [] 0 [] (plainD l (d + 1)) c v
    | .nothing => .mk 11 false 0 0 ⟨#[]⟩ [] 0 [] [] ⟨#[]⟩ 0
    | .alien => .mk 0 false 0 0 ⟨#[]⟩ [] 0 [] [] ⟨#[]⟩ 0
def plainL : List V → Nat → List Tm
  | [], _ => []
  | x :: r, d => plainT x d :: plainL r d
def plainD : List (ByteArray × V) → Nat → List (ByteArray × Tm)
  | [], _ => []
  | (n, x) :: r, d => (n, plainT x d) :: plainD r d
end
end Go.Proofs.YtobpkelblpdajaaGreatDoor
