/- The order of values; walks: slices.Compare, slices.CompareFunc. -/
import Derived.Test.YtobpkelblpdajaaGreatDoorTX10
set_option linter.unusedVariables false
set_option linter.unusedSimpArgs false
set_option linter.unusedSectionVars false
namespace Go.Proofs.YtobpkelblpdajaaGreatDoor
open Go Go.RowKit
attribute [local go_sem] ta_no_bool ta_yes_bool ta_nil_bool ta_no_int64 ta_yes_int64 ta_nil_int64 ta_no_flt ta_yes_flt ta_nil_flt ta_no_str ta_yes_str ta_nil_str ta_no_byt ta_yes_byt ta_nil_byt ta_no_ref ta_yes_ref ta_nil_ref ta_no_lst ta_yes_lst ta_nil_lst ta_no_dct ta_yes_dct ta_nil_dct ta_no_rec ta_yes_rec ta_nil_rec
def thenI (a b : Int) : Int := if a = 0 then b else a
def ordB : List UInt8 → List UInt8 → Int
  | [], [] => 0
  | [], _ :: _ => -1
  | _ :: _, [] => 1
  | x :: r, y :: s => thenI (ordI x.toNat y.toNat) (ordB r s)
mutual
/- How two values stand to each other. -/
def ordV : V → V → Int
  | .bool a, .bool b => ordI (truthI a) (truthI b)
  | .int a, .int b => ordI a b
  | .flt a, .flt b => ordI (placeV a) (placeV b)
  | .text a, .text b => ordS a b
  | .bytes a, .bytes b => ordB a b
  | .ref a, .ref b => ordI a b
  | .list a, .list b => ordL a b
  | .dict a, .dict b => ordD a b
  | .record c v l, .record c' v' l' => thenI (ordS c c') (thenI (ordI v v') (ordD l l'))
  | a, b => ordI (kindV a) (kindV b)
def ordL : List V → List V → Int
  | [], [] => 0
  | [], _ :: _ => -1
  | _ :: _, [] => 1
  | x :: r, y :: s => thenI (ordV x y) (ordL r s)
def ordD : List (ByteArray × V) → List (ByteArray × V) → Int
  | [], [] => 0
  | [], _ :: _ => -1
  | _ :: _, [] => 1
  | (n, x) :: r, (m, y) :: s => thenI (thenI (ordS n m) (ordV x y)) (ordD r s)
end
/- A list, as it lies. -/
def ListAt (w : World) (B : Nat) (A : Option Addr) (l : List V) : Prop := l = [] ∨ ∃ b off, A = some ⟨b, off, none⟩ ∧ b < B ∧ RdL w (fun b => b < B) b off l
theorem ListAt.at_ {w : World} {B : Nat} {A : Option Addr} {l : List V} (h : ListAt w B A l) {k : Nat} {x : V} (hx : l[k]? = some x) :
    ∃ b off v, A = some ⟨b, off, none⟩ ∧ b < B ∧ w.cell? ⟨b, off + k, none⟩ = some v ∧ Rd w B x v := by
  rcases h with h | ⟨b, off, h1, h2, h3⟩
  · subst h; cases hx
  · obtain ⟨v, hv, hr⟩ := RdL.iff.1 h3 k x hx
    exact ⟨b, off, v, h1, h2, hv, hr⟩
end Go.Proofs.YtobpkelblpdajaaGreatDoor
/- Walks: value.field, slices.CompareFunc of dicts, value.order, value.Same. -/
namespace Go.Proofs.YtobpkelblpdajaaGreatDoor
open Go Go.RowKit
attribute [local go_sem] ta_no_bool ta_yes_bool ta_nil_bool ta_no_int64 ta_yes_int64 ta_nil_int64 ta_no_flt ta_yes_flt ta_nil_flt ta_no_str ta_yes_str ta_nil_str ta_no_byt ta_yes_byt ta_nil_byt ta_no_ref ta_yes_ref ta_nil_ref ta_no_lst ta_yes_lst ta_nil_lst ta_no_dct ta_yes_dct ta_nil_dct ta_no_rec ta_yes_rec ta_nil_rec ta1_bool ta1_int64 ta1_flt ta1_str ta1_byt ta1_ref ta1_lst ta1_dct ta1_rec
end Go.Proofs.YtobpkelblpdajaaGreatDoor
