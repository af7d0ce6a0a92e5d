/- Walks: query.exact, ahead, behind. -/
import Derived.Test.YtbemeapjeipjlaaGreatDoorQN09
import Derived.Test.YtbemeapjeipjlaaGreatDoorQN01
set_option linter.unusedVariables false
set_option linter.unusedSimpArgs false
set_option linter.unusedSectionVars false
namespace Go.Proofs.YtbemeapjeipjlaaGreatDoor
open Go Go.RowKit
set_option maxRecDepth 100000
set_option maxHeartbeats 8000000
open Ieee (Datum Toward)
def geF (x y:Nat):Bool:=FloatKind.f64.format.order x y==some .gt || FloatKind.f64.format.order x y==some .eq
def ltF (x y:Nat):Bool:=FloatKind.f64.format.order x y==some .lt
def eqF (x y:Nat):Bool:=FloatKind.f64.format.order x y==some .eq
theorem nan_order {x y s t:Nat} {n:Bool} (h:FloatKind.f64.decode x=.nan n t):FloatKind.f64.format.order x y=none:=by
 change (Ieee.double.read x).order _=none
 rw[show Ieee.double.read x=.nan n t from h];rfl
theorem ge_lt {x y:Nat} (h:geF x y=true):ordF x y≠some .lt:=by
 intro h2
 have h2':FloatKind.f64.format.order x y=some .lt:=h2
 unfold geF at h
 rw[h2']at h;cases h
theorem ltF_iff {x y:Nat} (h:ltF x y=true):ordF x y=some .lt:=by
 unfold ltF at h;exact eq_of_beq h
theorem ltF_no {x y:Nat} (h:ltF x y=false):ordF x y≠some .lt:=by
 intro h2
 have h2':FloatKind.f64.format.order x y=some .lt:=h2
 unfold ltF at h
 rw[h2']at h;cases h
theorem lt_num {x y:Nat} (h:ltF x y=true):∀s t,FloatKind.f64.decode x≠.nan s t:=by
 intro s t hd
 have h0:=ltF_iff h
 have h1:ordF x y=none:=nan_order (s:=0) hd
 rw[h1]at h0;cases h0
theorem ge_no {x:Nat} (hn:∀s t,FloatKind.f64.decode x≠.nan s t) {y:Nat} (hy:∀s t,FloatKind.f64.decode y≠.nan s t) (h:geF x y=false):ordF x y=some .lt:=by
 unfold geF at h
 have hne:FloatKind.f64.format.order x y≠none:=by
  change (Ieee.double.read x).order (Ieee.double.read y)≠none
  change ∀s t,Ieee.double.read x≠_ at hn
  change ∀s t,Ieee.double.read y≠_ at hy
  generalize Ieee.double.read x=d at *
  generalize Ieee.double.read y=e at *
  cases d <;> cases e <;> first|(exact absurd rfl (hn _ _))|(exact absurd rfl (hy _ _))|(simp[Datum.order])
 change FloatKind.f64.format.order x y=some .lt
 cases hq:FloatKind.f64.format.order x y with
 | none=>exact absurd hq hne
 | some o=>rw[hq]at h;cases o <;> first | rfl | cases h
theorem to_int_val {x:Nat} {n:Int} (h:(FloatKind.f64.decode x).toInt .zero=some n) (h1:-9223372036854775808≤n) (h2:n<9223372036854775808):floatToIntVal .f64 x .i64=some n:=by
 unfold floatToIntVal
 rw[h]
 simp only
 rw[if_pos]
 have e1:IntKind.i64.min=-9223372036854775808:=by decide
 have e2:IntKind.i64.max=9223372036854775807:=by decide
 rw[e1,e2];omega
theorem run_to_int (x:Nat) (n:Int) (w:World) (h:floatToIntVal .f64 x .i64=some n):(convert 23 2 (.float .f64 x)).run Tryz.prog w=.ok (.int .i64 n) w:=
 run_convert_float_int w 23 2 .f64 .i64 x n (by rw[Tryz.underlying23];rfl) Tryz.underlying2 h
def exactV (x:Nat):Option Int:=if geF x 14114281232179134464=true then if ltF x 4890909195324358656=true then if eqF x (wholeF .zero x)=true then (FloatKind.f64.decode x).toInt .zero else none else none else none
def PairPost (r:Option Int) (w:World) (e:Ending) (w':World):Prop:=e=.returned (.tuple #[.int .i64 (r.getD 0),.bool r.isSome])∧w=w'
theorem exact_any (x:Nat) (w:World):Calls Tryz.prog 134 #[.float .f64 x] w (PairPost (exactV x) w):=by
 cases h1:geF x 14114281232179134464
 ·have HR:Hid (exactV x=none):=Hd (by unfold exactV;rw[h1];rfl)
  unfold geF at h1
  go_enter Tryz.func134,Tryz.ntmps134
  go_wp2
  go_ret2
  exact ⟨by rw[HR.out];rfl,rfl⟩
 cases h2:ltF x 4890909195324358656
 ·have HR:Hid (exactV x=none):=Hd (by unfold exactV;rw[h1,h2];rfl)
  unfold geF at h1
  unfold ltF at h2
  go_enter Tryz.func134,Tryz.ntmps134
  go_wp2
  go_ret2
  exact ⟨by rw[HR.out];rfl,rfl⟩
 have hn:=lt_num h2
 obtain ⟨n,hn1,hn2,hn3⟩:=in_range .zero hn (ge_lt h1) (ltF_iff h2)
 have HT:=Hd (mathTrunc_any x w hn)
 cases h3:eqF x (wholeF .zero x)
 ·have HR:Hid (exactV x=none):=Hd (by unfold exactV;rw[h1,h2,h3];rfl)
  unfold geF at h1
  unfold ltF at h2
  unfold eqF at h3
  go_enter Tryz.func134,Tryz.ntmps134
  go_wp2_with fail
  refine HT.out.mono ?_
  rintro e w1 ⟨rfl,rfl⟩
  go_wp2
  go_ret2
  exact ⟨by rw[HR.out];rfl,rfl⟩
 ·have HR:Hid (exactV x=some n):=Hd (by unfold exactV;rw[h1,h2,h3];exact hn1)
  have k0:=fun w=>run_to_int x n w (to_int_val hn1 hn2 hn3)
  clear hn1 hn2 hn3 hn
  unfold geF at h1
  unfold ltF at h2
  unfold eqF at h3
  go_enter Tryz.func134,Tryz.ntmps134
  go_wp2_with fail
  refine HT.out.mono ?_
  rintro e w1 ⟨rfl,rfl⟩
  go_wp2
  go_ret2
  exact ⟨by rw[HR.out];rfl,rfl⟩
theorem read_high_num:∀s t,FloatKind.f64.decode 4890909195324358656≠.nan s t:=by
 intro s t h
 have h':Ieee.double.read 4890909195324358656=.nan s t:=h
 rw[read_high]at h';cases h'
def aheadV (x:Nat) (n:Int):Bool:=if nanB x=true then false else if ltF x 14114281232179134464=true then true else if geF x 4890909195324358656=true then false else decide ((((FloatKind.f64.decode x).toInt .down).getD 0)<n)
def behindV (x:Nat) (n:Int):Bool:=if nanB x=true then false else if ltF x 14114281232179134464=true then false else if geF x 4890909195324358656=true then true else decide (n<(((FloatKind.f64.decode x).toInt .up).getD 0)) || geF (wholeF .up x) 4890909195324358656
theorem ahead_any (x:Nat) (n:Int) (w:World):Calls Tryz.prog 139 #[.float .f64 x,.int .i64 n] w (fun e w'=>e=.returned (.bool (aheadV x n))∧w=w'):=by
 have HN:=Hd (isNaN_any x w)
 cases h0:nanB x
 case true =>
  have HR:Hid (aheadV x n=false):=Hd (by unfold aheadV;rw[h0];rfl)
  rw[h0]at HN
  clear h0
  go_enter Tryz.func139,Tryz.ntmps139
  go_wp2_with fail
  refine HN.out.mono ?_
  rintro e w1 ⟨rfl,rfl⟩
  go_wp2
  go_ret
  exact ⟨ret_bool HR.out.symm,rfl⟩
 case false =>
 cases h1:ltF x 14114281232179134464
 case true =>
  have HR:Hid (aheadV x n=true):=Hd (by unfold aheadV;rw[h0,h1];rfl)
  rw[h0]at HN
  clear h0
  unfold ltF at h1
  go_enter Tryz.func139,Tryz.ntmps139
  go_wp2_with fail
  refine HN.out.mono ?_
  rintro e w1 ⟨rfl,rfl⟩
  go_wp2
  go_ret
  exact ⟨ret_bool HR.out.symm,rfl⟩
 case false =>
 cases h2:geF x 4890909195324358656
 case true =>
  have HR:Hid (aheadV x n=false):=Hd (by unfold aheadV;rw[h0,h1,h2];rfl)
  rw[h0]at HN
  clear h0
  unfold ltF at h1
  unfold geF at h2
  go_enter Tryz.func139,Tryz.ntmps139
  go_wp2_with fail
  refine HN.out.mono ?_
  rintro e w1 ⟨rfl,rfl⟩
  go_wp2
  go_ret
  exact ⟨ret_bool HR.out.symm,rfl⟩
 case false =>
 have hn:=not_nan h0
 obtain ⟨m,hm1,hm2,hm3⟩:=in_range .down hn (ltF_no h1) (ge_no hn read_high_num h2)
 have HT:=Hd (mathFloor_any x w hn)
 have k0:=fun w=>run_to_int (wholeF .down x) m w (to_int_val (whole_back .down x m hm1 hm2 (by omega)) hm2 hm3)
 have HR:Hid (aheadV x n=decide (m<n)):=Hd (by unfold aheadV;rw[h0,h1,h2,hm1];rfl)
 rw[h0]at HN
 clear h0 hm1 hm2 hm3 hn
 unfold ltF at h1
 unfold geF at h2
 go_enter Tryz.func139,Tryz.ntmps139
 go_wp2_with fail
 refine HN.out.mono ?_
 rintro e w1 ⟨rfl,rfl⟩
 go_wp2_with fail
 refine HT.out.mono ?_
 rintro e w1 ⟨rfl,rfl⟩
 go_wp2
 go_ret
 exact ⟨ret_bool HR.out.symm,rfl⟩
theorem behind_any (x:Nat) (n:Int) (w:World):Calls Tryz.prog 138 #[.float .f64 x,.int .i64 n] w (fun e w'=>e=.returned (.bool (behindV x n))∧w=w'):=by
 have HN:=Hd (isNaN_any x w)
 cases h0:nanB x
 case true =>
  have HR:Hid (behindV x n=false):=Hd (by unfold behindV;rw[h0];rfl)
  rw[h0]at HN
  clear h0
  go_enter Tryz.func138,Tryz.ntmps138
  go_wp2_with fail
  refine HN.out.mono ?_
  rintro e w1 ⟨rfl,rfl⟩
  go_wp2
  go_ret
  exact ⟨ret_bool HR.out.symm,rfl⟩
 case false =>
 cases h1:ltF x 14114281232179134464
 case true =>
  have HR:Hid (behindV x n=false):=Hd (by unfold behindV;rw[h0,h1];rfl)
  rw[h0]at HN
  clear h0
  unfold ltF at h1
  go_enter Tryz.func138,Tryz.ntmps138
  go_wp2_with fail
  refine HN.out.mono ?_
  rintro e w1 ⟨rfl,rfl⟩
  go_wp2
  go_ret
  exact ⟨ret_bool HR.out.symm,rfl⟩
 case false =>
 cases h2:geF x 4890909195324358656
 case true =>
  have HR:Hid (behindV x n=true):=Hd (by unfold behindV;rw[h0,h1,h2];rfl)
  rw[h0]at HN
  clear h0
  unfold ltF at h1
  unfold geF at h2
  go_enter Tryz.func138,Tryz.ntmps138
  go_wp2_with fail
  refine HN.out.mono ?_
  rintro e w1 ⟨rfl,rfl⟩
  go_wp2
  go_ret
  exact ⟨ret_bool HR.out.symm,rfl⟩
 case false =>
 have hn:=not_nan h0
 obtain ⟨m,hm1,hm2,hm3⟩:=in_range .up hn (ltF_no h1) (ge_no hn read_high_num h2)
 have HT:=Hd (mathCeil_any x w hn)
 have k0:=fun w=>run_to_int (wholeF .up x) m w (to_int_val (whole_back .up x m hm1 hm2 (by omega)) hm2 hm3)
 have HR:Hid (behindV x n=(decide (n<m) || geF (wholeF .up x) 4890909195324358656)):=Hd (by unfold behindV;rw[h0,h1,h2,hm1];rfl)
 rw[h0]at HN
 clear h0 hm1 hm2 hm3 hn
 unfold ltF at h1
 unfold geF at h2
 by_cases hlt:n<m
 ·replace HR:Hid (behindV x n=true):=Hd (by rw[HR.out,decide_eq_true hlt];rfl)
  go_enter Tryz.func138,Tryz.ntmps138
  go_wp2_with fail
  refine HN.out.mono ?_
  rintro e w1 ⟨rfl,rfl⟩
  go_wp2_with fail
  refine HT.out.mono ?_
  rintro e w1 ⟨rfl,rfl⟩
  go_wp2
  go_ret
  exact ⟨ret_bool HR.out.symm,rfl⟩
 ·go_enter Tryz.func138,Tryz.ntmps138
  go_wp2_with fail
  refine HN.out.mono ?_
  rintro e w1 ⟨rfl,rfl⟩
  go_wp2_with fail
  refine HT.out.mono ?_
  rintro e w1 ⟨rfl,rfl⟩
  go_wp2_with fail
  refine HT.out.mono ?_
  rintro e w1 ⟨rfl,rfl⟩
  go_wp2
  go_ret
  exact ⟨ret_bool (by rw[HR.out];rfl),rfl⟩
attribute [local go_sem] ta_no_bool ta_yes_bool ta_nil_bool ta_no_int64 ta_yes_int64 ta_nil_int64 ta_no_flt ta_yes_flt ta_nil_flt ta_no_str ta_yes_str ta_nil_str ta_no_byt ta_yes_byt ta_nil_byt ta_no_ref ta_yes_ref ta_nil_ref ta_no_lst ta_yes_lst ta_nil_lst ta_no_dct ta_yes_dct ta_nil_dct ta_no_rec ta_yes_rec ta_nil_rec
section
variable {w:World} {S:Nat→Prop} {x:V} {v:Value} (h:RdS w S x v) (X:TypeId) (W:World)
include h
theorem not_bool (hk:kindV x≠2):(Instr.typeAssert v X 4 true).run Tryz.prog W=.ok (.tuple #[.bool false,.bool false]) W:=by
 cases x with
 | nil=>subst h;exact ta_nil_bool W X
 | bool a=>exact absurd rfl hk
 | int a=>obtain ⟨rfl,_⟩:=h;exact ta_no_bool W _ X _ (by decide)
 | flt a=>subst h;exact ta_no_bool W _ X _ (by decide)
 | text a=>obtain ⟨rfl,_⟩:=h;exact ta_no_bool W _ X _ (by decide)
 | bytes a=>obtain ⟨A,c,rfl,_⟩:=h;exact ta_no_bool W _ X _ (by decide)
 | ref a=>obtain ⟨rfl,_⟩:=h;exact ta_no_bool W _ X _ (by decide)
 | list a=>obtain ⟨A,c,rfl,_⟩:=h;exact ta_no_bool W _ X _ (by decide)
 | dict a=>obtain ⟨A,c,rfl,_⟩:=h;exact ta_no_bool W _ X _ (by decide)
 | record c ver l=>obtain ⟨b,rfl,_⟩:=h;exact ta_no_bool W _ X _ (by decide)
 | nothing=>subst h;exact ta_no_bool W _ X _ (by decide)
 | alien=>obtain ⟨t,y,rfl,ht⟩:=h;exact ta_no_bool W _ X _ (alienT_ne ht).1
theorem not_int (hk:kindV x≠3):(Instr.typeAssert v X 2 true).run Tryz.prog W=.ok (.tuple #[.int .i64 0,.bool false]) W:=by
 cases x with
 | nil=>subst h;exact ta_nil_int64 W X
 | bool a=>subst h;exact ta_no_int64 W _ X _ (by decide)
 | int a=>exact absurd rfl hk
 | flt a=>subst h;exact ta_no_int64 W _ X _ (by decide)
 | text a=>obtain ⟨rfl,_⟩:=h;exact ta_no_int64 W _ X _ (by decide)
 | bytes a=>obtain ⟨A,c,rfl,_⟩:=h;exact ta_no_int64 W _ X _ (by decide)
 | ref a=>obtain ⟨rfl,_⟩:=h;exact ta_no_int64 W _ X _ (by decide)
 | list a=>obtain ⟨A,c,rfl,_⟩:=h;exact ta_no_int64 W _ X _ (by decide)
 | dict a=>obtain ⟨A,c,rfl,_⟩:=h;exact ta_no_int64 W _ X _ (by decide)
 | record c ver l=>obtain ⟨b,rfl,_⟩:=h;exact ta_no_int64 W _ X _ (by decide)
 | nothing=>subst h;exact ta_no_int64 W _ X _ (by decide)
 | alien=>obtain ⟨t,y,rfl,ht⟩:=h;exact ta_no_int64 W _ X _ (alienT_ne ht).2.1
theorem not_flt (hk:kindV x≠4):(Instr.typeAssert v X 23 true).run Tryz.prog W=.ok (.tuple #[.float .f64 0,.bool false]) W:=by
 cases x with
 | nil=>subst h;exact ta_nil_flt W X
 | bool a=>subst h;exact ta_no_flt W _ X _ (by decide)
 | int a=>obtain ⟨rfl,_⟩:=h;exact ta_no_flt W _ X _ (by decide)
 | flt a=>exact absurd rfl hk
 | text a=>obtain ⟨rfl,_⟩:=h;exact ta_no_flt W _ X _ (by decide)
 | bytes a=>obtain ⟨A,c,rfl,_⟩:=h;exact ta_no_flt W _ X _ (by decide)
 | ref a=>obtain ⟨rfl,_⟩:=h;exact ta_no_flt W _ X _ (by decide)
 | list a=>obtain ⟨A,c,rfl,_⟩:=h;exact ta_no_flt W _ X _ (by decide)
 | dict a=>obtain ⟨A,c,rfl,_⟩:=h;exact ta_no_flt W _ X _ (by decide)
 | record c ver l=>obtain ⟨b,rfl,_⟩:=h;exact ta_no_flt W _ X _ (by decide)
 | nothing=>subst h;exact ta_no_flt W _ X _ (by decide)
 | alien=>obtain ⟨t,y,rfl,ht⟩:=h;exact ta_no_flt W _ X _ (alienT_ne ht).2.2.1
theorem not_text (hk:kindV x≠5):(Instr.typeAssert v X 9 true).run Tryz.prog W=.ok (.tuple #[.string ⟨#[]⟩,.bool false]) W:=by
 cases x with
 | nil=>subst h;exact ta_nil_str W X
 | bool a=>subst h;exact ta_no_str W _ X _ (by decide)
 | int a=>obtain ⟨rfl,_⟩:=h;exact ta_no_str W _ X _ (by decide)
 | flt a=>subst h;exact ta_no_str W _ X _ (by decide)
 | text a=>exact absurd rfl hk
 | bytes a=>obtain ⟨A,c,rfl,_⟩:=h;exact ta_no_str W _ X _ (by decide)
 | ref a=>obtain ⟨rfl,_⟩:=h;exact ta_no_str W _ X _ (by decide)
 | list a=>obtain ⟨A,c,rfl,_⟩:=h;exact ta_no_str W _ X _ (by decide)
 | dict a=>obtain ⟨A,c,rfl,_⟩:=h;exact ta_no_str W _ X _ (by decide)
 | record c ver l=>obtain ⟨b,rfl,_⟩:=h;exact ta_no_str W _ X _ (by decide)
 | nothing=>subst h;exact ta_no_str W _ X _ (by decide)
 | alien=>obtain ⟨t,y,rfl,ht⟩:=h;exact ta_no_str W _ X _ (alienT_ne ht).2.2.2.1
theorem not_bytes (hk:kindV x≠6):(Instr.typeAssert v X 24 true).run Tryz.prog W=.ok (.tuple #[.slice none 0 0,.bool false]) W:=by
 cases x with
 | nil=>subst h;exact ta_nil_byt W X
 | bool a=>subst h;exact ta_no_byt W _ X _ (by decide)
 | int a=>obtain ⟨rfl,_⟩:=h;exact ta_no_byt W _ X _ (by decide)
 | flt a=>subst h;exact ta_no_byt W _ X _ (by decide)
 | text a=>obtain ⟨rfl,_⟩:=h;exact ta_no_byt W _ X _ (by decide)
 | bytes a=>exact absurd rfl hk
 | ref a=>obtain ⟨rfl,_⟩:=h;exact ta_no_byt W _ X _ (by decide)
 | list a=>obtain ⟨A,c,rfl,_⟩:=h;exact ta_no_byt W _ X _ (by decide)
 | dict a=>obtain ⟨A,c,rfl,_⟩:=h;exact ta_no_byt W _ X _ (by decide)
 | record c ver l=>obtain ⟨b,rfl,_⟩:=h;exact ta_no_byt W _ X _ (by decide)
 | nothing=>subst h;exact ta_no_byt W _ X _ (by decide)
 | alien=>obtain ⟨t,y,rfl,ht⟩:=h;exact ta_no_byt W _ X _ (alienT_ne ht).2.2.2.2.1
theorem not_ref (hk:kindV x≠7):(Instr.typeAssert v X 26 true).run Tryz.prog W=.ok (.tuple #[.int .u64 0,.bool false]) W:=by
 cases x with
 | nil=>subst h;exact ta_nil_ref W X
 | bool a=>subst h;exact ta_no_ref W _ X _ (by decide)
 | int a=>obtain ⟨rfl,_⟩:=h;exact ta_no_ref W _ X _ (by decide)
 | flt a=>subst h;exact ta_no_ref W _ X _ (by decide)
 | text a=>obtain ⟨rfl,_⟩:=h;exact ta_no_ref W _ X _ (by decide)
 | bytes a=>obtain ⟨A,c,rfl,_⟩:=h;exact ta_no_ref W _ X _ (by decide)
 | ref a=>exact absurd rfl hk
 | list a=>obtain ⟨A,c,rfl,_⟩:=h;exact ta_no_ref W _ X _ (by decide)
 | dict a=>obtain ⟨A,c,rfl,_⟩:=h;exact ta_no_ref W _ X _ (by decide)
 | record c ver l=>obtain ⟨b,rfl,_⟩:=h;exact ta_no_ref W _ X _ (by decide)
 | nothing=>subst h;exact ta_no_ref W _ X _ (by decide)
 | alien=>obtain ⟨t,y,rfl,ht⟩:=h;exact ta_no_ref W _ X _ (alienT_ne ht).2.2.2.2.2.1
theorem not_list (hk:kindV x≠8):(Instr.typeAssert v X 73 true).run Tryz.prog W=.ok (.tuple #[.slice none 0 0,.bool false]) W:=by
 cases x with
 | nil=>subst h;exact ta_nil_lst W X
 | bool a=>subst h;exact ta_no_lst W _ X _ (by decide)
 | int a=>obtain ⟨rfl,_⟩:=h;exact ta_no_lst W _ X _ (by decide)
 | flt a=>subst h;exact ta_no_lst W _ X _ (by decide)
 | text a=>obtain ⟨rfl,_⟩:=h;exact ta_no_lst W _ X _ (by decide)
 | bytes a=>obtain ⟨A,c,rfl,_⟩:=h;exact ta_no_lst W _ X _ (by decide)
 | ref a=>obtain ⟨rfl,_⟩:=h;exact ta_no_lst W _ X _ (by decide)
 | list a=>exact absurd rfl hk
 | dict a=>obtain ⟨A,c,rfl,_⟩:=h;exact ta_no_lst W _ X _ (by decide)
 | record c ver l=>obtain ⟨b,rfl,_⟩:=h;exact ta_no_lst W _ X _ (by decide)
 | nothing=>subst h;exact ta_no_lst W _ X _ (by decide)
 | alien=>obtain ⟨t,y,rfl,ht⟩:=h;exact ta_no_lst W _ X _ (alienT_ne ht).2.2.2.2.2.2.1
theorem not_dict (hk:kindV x≠9):(Instr.typeAssert v X 46 true).run Tryz.prog W=.ok (.tuple #[.slice none 0 0,.bool false]) W:=by
 cases x with
 | nil=>subst h;exact ta_nil_dct W X
 | bool a=>subst h;exact ta_no_dct W _ X _ (by decide)
 | int a=>obtain ⟨rfl,_⟩:=h;exact ta_no_dct W _ X _ (by decide)
 | flt a=>subst h;exact ta_no_dct W _ X _ (by decide)
 | text a=>obtain ⟨rfl,_⟩:=h;exact ta_no_dct W _ X _ (by decide)
 | bytes a=>obtain ⟨A,c,rfl,_⟩:=h;exact ta_no_dct W _ X _ (by decide)
 | ref a=>obtain ⟨rfl,_⟩:=h;exact ta_no_dct W _ X _ (by decide)
 | list a=>obtain ⟨A,c,rfl,_⟩:=h;exact ta_no_dct W _ X _ (by decide)
 | dict a=>exact absurd rfl hk
 | record c ver l=>obtain ⟨b,rfl,_⟩:=h;exact ta_no_dct W _ X _ (by decide)
 | nothing=>subst h;exact ta_no_dct W _ X _ (by decide)
 | alien=>obtain ⟨t,y,rfl,ht⟩:=h;exact ta_no_dct W _ X _ (alienT_ne ht).2.2.2.2.2.2.2.1
theorem not_record (hk:kindV x≠10) (hk2:kindV x≠11):(Instr.typeAssert v X 75 true).run Tryz.prog W=.ok (.tuple #[.pointer none,.bool false]) W:=by
 cases x with
 | nil=>subst h;exact ta_nil_rec W X
 | bool a=>subst h;exact ta_no_rec W _ X _ (by decide)
 | int a=>obtain ⟨rfl,_⟩:=h;exact ta_no_rec W _ X _ (by decide)
 | flt a=>subst h;exact ta_no_rec W _ X _ (by decide)
 | text a=>obtain ⟨rfl,_⟩:=h;exact ta_no_rec W _ X _ (by decide)
 | bytes a=>obtain ⟨A,c,rfl,_⟩:=h;exact ta_no_rec W _ X _ (by decide)
 | ref a=>obtain ⟨rfl,_⟩:=h;exact ta_no_rec W _ X _ (by decide)
 | list a=>obtain ⟨A,c,rfl,_⟩:=h;exact ta_no_rec W _ X _ (by decide)
 | dict a=>obtain ⟨A,c,rfl,_⟩:=h;exact ta_no_rec W _ X _ (by decide)
 | record c ver l=>exact absurd rfl hk
 | nothing=>exact absurd rfl hk2
 | alien=>obtain ⟨t,y,rfl,ht⟩:=h;exact ta_no_rec W _ X _ (alienT_ne ht).2.2.2.2.2.2.2.2
end
theorem kind_is_bool {x:V} (h:kindV x=2):∃a,x=.bool a:=by
 cases x <;> first|exact ⟨_,rfl⟩|exact absurd h (by simp[kindV])
theorem kind_is_int {x:V} (h:kindV x=3):∃a,x=.int a:=by
 cases x <;> first|exact ⟨_,rfl⟩|exact absurd h (by simp[kindV])
theorem kind_is_flt {x:V} (h:kindV x=4):∃a,x=.flt a:=by
 cases x <;> first|exact ⟨_,rfl⟩|exact absurd h (by simp[kindV])
theorem kind_is_text {x:V} (h:kindV x=5):∃a,x=.text a:=by
 cases x <;> first|exact ⟨_,rfl⟩|exact absurd h (by simp[kindV])
theorem kind_is_bytes {x:V} (h:kindV x=6):∃a,x=.bytes a:=by
 cases x <;> first|exact ⟨_,rfl⟩|exact absurd h (by simp[kindV])
theorem kind_is_ref {x:V} (h:kindV x=7):∃a,x=.ref a:=by
 cases x <;> first|exact ⟨_,rfl⟩|exact absurd h (by simp[kindV])
theorem kind_is_list {x:V} (h:kindV x=8):∃a,x=.list a:=by
 cases x <;> first|exact ⟨_,rfl⟩|exact absurd h (by simp[kindV])
theorem kind_is_dict {x:V} (h:kindV x=9):∃a,x=.dict a:=by
 cases x <;> first|exact ⟨_,rfl⟩|exact absurd h (by simp[kindV])
theorem kind_is_record {x:V} (h:kindV x=10):∃c v l,x=.record c v l:=by
 cases x <;> first|exact ⟨_,_,_,rfl⟩|exact absurd h (by decide)|exact absurd h (by simp[kindV])
def Eleven (y:List Value):Prop:=∃n0 n1 n2 n3 n4 n5 n6 n7 n8 n9 n10,y=[n0,n1,n2,n3,n4,n5,n6,n7,n8,n9,n10]∧∀v∈y,v.oneCell'=true
def eV (op:ByteArray) (a:Int) (p:Value) (nm:ByteArray) (y:List Value):Value:=.agg (.string op :: .int .i64 a :: p :: .string nm :: y).toArray
def faultV (a:Int) (why:Nat):Value:=.iface 97 (.agg #[.int .i64 a,.int .i64 why])
def GivesUp (a:Int) (why:Nat) (w:World) (e:Ending) (w':World):Prop:=e=.panicked [{ v:=faultV a why,recovered:=false }]∧Below w.heap.size w w'
theorem bad_any (op:ByteArray) (a:Int) (p:Value) (nm:ByteArray) (y:List Value) (hy:Eleven y) (hp:p.oneCell'=true) (w:World) :
  Calls Tryz.prog 61 #[eV op a p nm y] w (GivesUp a 172 w):=by
 obtain ⟨n0,n1,n2,n3,n4,n5,n6,n7,n8,n9,n10,rfl,h1⟩:=hy
 clear h1
 unfold eV
 go_enter Tryz.func61,Tryz.ntmps61
 go_wp2
 exact ⟨rfl,rfl,bnew⟩
inductive Out where
 | val (x:V)
 | gone (a:Int) (why:Nat)
abbrev oValue:ByteArray:=⟨#[118,97,108,117,101]⟩
abbrev oSelf:ByteArray:=⟨#[115,101,108,102]⟩
abbrev oField:ByteArray:=⟨#[102,105,101,108,100]⟩
abbrev oDot:ByteArray:=⟨#[100,111,116]⟩
abbrev oOr:ByteArray:=⟨#[111,114]⟩
abbrev oAnd:ByteArray:=⟨#[97,110,100]⟩
abbrev oNot:ByteArray:=⟨#[110,111,116]⟩
abbrev oIs:ByteArray:=⟨#[105,115]⟩
abbrev oNeg:ByteArray:=⟨#[110,101,103]⟩
abbrev oList:ByteArray:=⟨#[108,105,115,116]⟩
abbrev oCall:ByteArray:=⟨#[99,97,108,108]⟩
abbrev oAt:ByteArray:=⟨#[97,116]⟩
abbrev oIn:ByteArray:=⟨#[105,110]⟩
abbrev oAdd:ByteArray:=⟨#[43]⟩
abbrev oSub:ByteArray:=⟨#[45]⟩
abbrev oMul:ByteArray:=⟨#[42]⟩
abbrev oDiv:ByteArray:=⟨#[47]⟩
abbrev oRem:ByteArray:=⟨#[37]⟩
abbrev oEq:ByteArray:=⟨#[61]⟩
abbrev oNe:ByteArray:=⟨#[33,61]⟩
abbrev oLt:ByteArray:=⟨#[60]⟩
abbrev oLe:ByteArray:=⟨#[60,61]⟩
abbrev oGt:ByteArray:=⟨#[62]⟩
abbrev oGe:ByteArray:=⟨#[62,61]⟩
abbrev gLen:ByteArray:=⟨#[108,101,110]⟩
abbrev gKind:ByteArray:=⟨#[107,105,110,100]⟩
abbrev gKeys:ByteArray:=⟨#[107,101,121,115]⟩
abbrev gFirst:ByteArray:=⟨#[102,105,114,115,116]⟩
abbrev gLast:ByteArray:=⟨#[108,97,115,116]⟩
abbrev gSum:ByteArray:=⟨#[115,117,109]⟩
abbrev gLeast:ByteArray:=⟨#[108,101,97,115,116]⟩
abbrev gMost:ByteArray:=⟨#[109,111,115,116]⟩
abbrev gHas:ByteArray:=⟨#[104,97,115]⟩
abbrev gAny:ByteArray:=⟨#[97,110,121]⟩
abbrev gAll:ByteArray:=⟨#[97,108,108]⟩
abbrev gMap:ByteArray:=⟨#[109,97,112]⟩
abbrev gPick:ByteArray:=⟨#[112,105,99,107]⟩
def kindWords:List ByteArray:=[⟨#[]⟩,⟨#[110,105,108]⟩,⟨#[98,111,111,108]⟩,⟨#[105,110,116]⟩,⟨#[102,108,111,97,116]⟩,⟨#[116,101,120,116]⟩,⟨#[98,121,116,101,115]⟩,⟨#[114,101,102]⟩,⟨#[108,105,115,116]⟩,⟨#[100,105,99,116]⟩,⟨#[114,101,99,111,114,100]⟩]
def idxW:List ByteArray→ByteArray→Nat→Int
 | [],_,_=>-1
 | x :: r,s,k=>if (s.toList==x.toList)=true then k else idxW r s (k+1)
def fieldsOf:V→Option (List (ByteArray×V))
 | .dict l=>some l
 | .record _ _ l=>some l
 | _=>none
def underV:List (ByteArray×V)→ByteArray→Option V
 | [],_=>none
 | (n,x) :: r,s=>if (n.toList==s.toList)=true then some x else underV r s
def fieldV (a:Int) (v:V) (s:ByteArray):Out:=match fieldsOf v with
 | none=>.gone a 172
 | some l=>.val ((underV l s).getD .nil)
noncomputable def goodV (a:Int) (x:V):Out:=if (checkV x).2=0 then .val x else .gone a (checkV x).2
noncomputable def equalV:V→V→Bool
 | .int n,.flt f=>match exactV f with
  | some m=>m==n
  | none=>false
 | .flt f,.int n=>match exactV f with
  | some m=>m==n
  | none=>false
 | a,b=>sameV a b
def lessV:V→V→Option Bool
 | .int a,.int b=>some (decide (a<b))
 | .int a,.flt g=>some (behindV g a)
 | .flt f,.int b=>some (aheadV f b)
 | .flt f,.flt g=>some (ltF f g)
 | .text a,.text b=>some (lessS a b)
 | .bytes a,.bytes b=>some (decide (ordB a b<0))
 | .bool a,.bool b=>some (!a&&b)
 | _,_=>none
def nanOf:V→Bool
 | .flt f=>nanB f
 | _=>false
noncomputable def heldV (op:ByteArray) (a:Int) (x y:V):Out:=
 if op=oEq then .val (.bool (equalV x y))
 else if op=oNe then .val (.bool (!equalV x y))
 else if op=oLt then (match lessV x y with|none=>.gone a 172|some b=>.val (.bool b))
 else if op=oGt then (match lessV y x with|none=>.gone a 172|some b=>.val (.bool b))
 else if op=oLe then (match lessV y x with|none=>.gone a 172|some b=>.val (.bool (!b&&(!nanOf y&&!nanOf x))))
 else (match lessV x y with|none=>.gone a 172|some b=>.val (.bool (!b&&(!nanOf x&&!nanOf y))))
def addO (x y:Int):Option Int:=if (decide (x<wrap64 (x+y))==decide (0<y))=true then some (wrap64 (x+y)) else none
def subO (x y:Int):Option Int:=if (decide (wrap64 (x-y)<x)==decide (0<y))=true then some (wrap64 (x-y)) else none
def mulO (x y:Int):Option Int:=
 if x=0∨y=0 then some 0
 else if wrap64 ((wrap64 (x*y)).tdiv y)=x∧¬(x=-1∧y=-9223372036854775808)∧¬(y=-1∧x=-9223372036854775808) then some (wrap64 (x*y)) else none
def divO (x y:Int):Option Int:=if y≠0∧¬(x=-9223372036854775808∧y=-1) then some (wrap64 (x.tdiv y)) else none
def remO (x y:Int):Option Int:=if y=-1 then some 0 else if y≠0 then some (x.tmod y) else none
def wholeO (op:ByteArray) (x y:Int):Option Int:=
 if op=oAdd then addO x y else if op=oSub then subO x y else if op=oMul then mulO x y else if op=oDiv then divO x y else if op=oRem then remO x y else none
def intOut (a:Int) (r:Option Int):Out:=match r with
 | some n=>.val (.int n)
 | none=>.gone a 172
def arith? (op:ByteArray):Option BinOp:=
 if op=oAdd then some .add else if op=oSub then some .sub else if op=oMul then some .mul else if op=oDiv then some .quo else none
def arithF (o:BinOp) (f g:Nat):Nat:=match floatBits o .f64 f g with
 | some r=>oneV r
 | none=>9221120237041090561
def floatOf:V→Option Nat
 | .int n=>some (FloatKind.f64.nearest n)
 | .flt f=>some f
 | _=>none
noncomputable def joinedV (a:Int):V→V→Out
 | .text x,.text y=>goodV a (.text (x++y))
 | .bytes x,.bytes y=>goodV a (.bytes (x++y))
 | .list x,.list y=>goodV a (.list (x++y))
 | _,_=>.gone a 172
noncomputable def reckonV (op:ByteArray) (a:Int) (x y:V):Out:=
 match x,y with
 | .int m,.int n=>intOut a (wholeO op m n)
 | x,y=>match floatOf x,floatOf y with
  | some f,some g=>(match arith? op with | some o=>.val (.flt (arithF o f g)) | none=>.gone a 172)
  | _,_=>if op=oAdd then joinedV a x y else .gone a 172
def negV (a:Int):V→Out
 | .int n=>if n=-9223372036854775808 then .gone a 172 else .val (.int (-n))
 | .flt f=>.val (.flt (oneV (Op.negFloat .f64 f)))
 | _=>.gone a 172
def notV (a:Int):V→Out
 | .bool b=>.val (.bool !b)
 | _=>.gone a 172
def placeAt (l:List V) (n:Int):V:=if n<0 then (if n+l.length<0 then .nil else l.getD (n+l.length).toNat .nil) else l.getD n.toNat .nil
def placeV' (a:Int) (v i:V):Out:=match v with
 | .list l=>(match i with | .int n=>.val (placeAt l n) | _=>.gone a 172)
 | v=>(match i with | .text s=>fieldV a v s | _=>.gone a 172)
noncomputable def withinV (a:Int) (x y:V):Out:=match y with
 | .list l=>.val (.bool (l.any fun z=>equalV x z))
 | y=>match fieldsOf y,x with
  | some l,.text s=>.val (.bool (underV l s).isSome)
  | _,_=>.gone a 172
def lengthV (a:Int):V→Out
 | .text s=>.val (.int s.size)
 | .bytes l=>.val (.int l.length)
 | .list l=>.val (.int l.length)
 | v=>match fieldsOf v with
  | some l=>.val (.int l.length)
  | none=>.gone a 172
noncomputable def keysV (a:Int) (v:V):Out:=match fieldsOf v with
 | some l=>goodV a (.list (l.map fun p=>.text p.1))
 | none=>.gone a 172
noncomputable def sumV (a:Int):List V→V→Out
 | [],n=>.val n
 | x :: r,n=>match floatOf x with
  | none=>.gone a 172
  | some _=>(match reckonV oAdd a n x with | .val m=>sumV a r m | .gone b w=>.gone b w)
def leadV (a:Int) (most:Bool):List V→V→Out
 | [],n=>.val n
 | x :: r,n=>match (if most=true then lessV n x else lessV x n)with
  | none=>.gone a 172
  | some b=>leadV a most r (if b=true then x else n)
noncomputable def listedV (name:ByteArray) (a:Int) (l:List V):Out:=
 if name=gSum then sumV a l (.int 0)
 else match l with
  | []=>.val .nil
  | x :: r=>if name=gFirst then .val x
   else if name=gLast then .val ((x :: r).getLastD .nil)
   else match lessV x x with
    | none=>.gone a 172
    | some _=>leadV a (decide (name=gMost)) r x
noncomputable def pairV (op:ByteArray) (a:Int) (x y:V):Out:=
 if op=oAt then placeV' a x y else if op=oIn then withinV a x y else if op=oAdd∨op=oSub∨op=oMul∨op=oDiv∨op=oRem then reckonV op a x y else heldV op a x y
abbrev Ask:=V→Nat→Out×Nat
def bindA (r:Out×Nat) (K:V→Nat→Out×Nat):Out×Nat:=match r.1 with
 | .val x=>K x r.2
 | .gone a w=>(.gone a w,r.2)
def subA (l:List Ask) (i:Nat):Ask:=l.getD i fun _ n=>(.gone 0 0,n)
def logicA (a:Int) (or:Bool):List Ask→V→Nat→Out×Nat
 | [],_,n=>(.val (.bool !or),n)
 | f :: r,v,n=>bindA (f v n) fun x m=>match x with
  | .bool b=>if b=or then (.val (.bool b),m) else logicA a or r v m
  | _=>(.gone a 172,m)
noncomputable def listA (a:Int):List Ask→V→List V→Nat→Out×Nat
 | [],_,o,n=>(goodV a (.list o),n)
 | f :: r,v,o,n=>bindA (f v n) fun x m=>listA a r v (o++[x]) m
noncomputable def eachA (name:ByteArray) (a:Int) (f:Ask):List V→List V→Nat→Out×Nat
 | [],o,n=>(if name=gAny then .val (.bool false) else if name=gAll then .val (.bool true) else goodV a (.list o),n)
 | x :: r,o,n=>bindA (f x n) fun y m =>
  if name=gMap then eachA name a f r (o++[y]) m
  else match y with
   | .bool b=>if name=gAny∧b=true then (.val (.bool true),m)
    else if name=gAll∧b=false then (.val (.bool false),m)
    else if name=gPick∧b=true then eachA name a f r (o++[x]) m
    else eachA name a f r o m
   | _=>(.gone a 172,m)
def turnsB (name:ByteArray):Bool:=decide (name=gAny) || (decide (name=gAll) || (decide (name=gMap) || decide (name=gPick)))
noncomputable def hasV (a:Int) (x y:V):Out:=match fieldsOf x,y with
 | some l,.text s=>.val (.bool (underV l s).isSome)
 | _,_=>.gone a 172
noncomputable def callA (name:ByteArray) (a:Int) (l:List Ask) (v:V) (n:Nat):Out×Nat:=
 bindA (subA l 0 v n) fun x m =>
  if turnsB name=true then (match x with | .list xs=>eachA name a (subA l 1) xs [] m|_=>(.gone a 172,m))
  else if name=gLen then (lengthV a x,m)
  else if name=gKind then (.val (.text (kindWords.getD (kindV x) ⟨#[]⟩)),m)
  else if name=gKeys then (keysV a x,m)
  else if name=gHas then bindA (subA l 1 v m) fun y k=>(hasV a x y,k)
  else (match x with | .list xs=>listedV name a xs|_=>.gone a 172,m)
noncomputable def literalV (t:Tm):V:=if (checkV (builtV t)).2=0 then builtV t else .nil
noncomputable def stepA (op:ByteArray) (a:Int) (name:ByteArray) (t:Tm) (l:List Ask):Ask:=fun v n =>
 if 1048576<n+1 then (.gone a 2,n+1)
 else if op=oValue then (.val (literalV t),n+1)
 else if op=oSelf then (.val v,n+1)
 else if op=oField then (fieldV a v name,n+1)
 else if op=oDot then bindA (subA l 0 v (n+1)) fun x m=>(fieldV a x name,m)
 else if op=oOr then logicA a true l v (n+1)
 else if op=oAnd then logicA a false l v (n+1)
 else if op=oNot then bindA (subA l 0 v (n+1)) fun x m=>(notV a x,m)
 else if op=oIs then bindA (subA l 0 v (n+1)) fun x m=>(.val (.bool (decide ((kindV x:Int)=idxW kindWords name 0))),m)
 else if op=oNeg then bindA (subA l 0 v (n+1)) fun x m=>(negV a x,m)
 else if op=oList then listA a l v [] (n+1)
 else if op=oCall then callA name a l v (n+1)
 else bindA (subA l 0 v (n+1)) fun x m=>bindA (subA l 1 v m) fun y k=>(pairV op a x y,k)
mutual
noncomputable def askV:Ex→Ask
 | .mk op a l name t=>stepA op a name t (askL l)
noncomputable def askL:List Ex→List Ask
 | []=>[]
 | x :: r=>askV x :: askL r
end
theorem askL_eq (l:List Ex):askL l=l.map askV:=by
 induction l with
 | nil=>rfl
 | cons x r ih=>simp[askL,ih]
def AskSame (e:Ex) (L:List ByteArray):Prop:=∀lx ly:List (ByteArray×V),(∀s∈L,underV lx s=underV ly s)→∀n,askV e (.dict lx) n=askV e (.dict ly) n
theorem AskSame.mono {e:Ex} {L L':List ByteArray} (h:AskSame e L) (hL:∀s∈L,s∈L'):AskSame e L':=fun lx ly hs n=>h lx ly (fun s hm=>hs s (hL s hm)) n
theorem askSame_field (a:Int) (l:List Ex) (nm:ByteArray) (t:Tm) {L:List ByteArray} (h:nm∈L):AskSame (.mk oField a l nm t) L:=by
 intro lx ly hs n
 rw[askV]
 unfold stepA
 have:fieldV a (.dict lx) nm=fieldV a (.dict ly) nm:=by simp[fieldV,fieldsOf,hs nm h]
 rw[if_neg (by decide:¬oField=oValue),if_neg (by decide:¬oField=oSelf),if_pos rfl,if_neg (by decide:¬oField=oValue),if_neg (by decide:¬oField=oSelf),if_pos rfl,this]
theorem sub_self (a:Int) (r l:List Ex) (nm:ByteArray) (t:Tm) (v:V) (n:Nat):subA (askL (.mk oSelf a l nm t :: r)) 0 v n=if 1048576<n+1 then (.gone a 2,n+1) else (.val v,n+1):=by
 rw[askL,askV]
 unfold subA stepA
 simp
theorem askSame_dot (a:Int) (a0:Int) (l0 r:List Ex) (nm0:ByteArray) (t0:Tm) (nm:ByteArray) (t:Tm) {L:List ByteArray} (h:nm∈L):AskSame (.mk oDot a (.mk oSelf a0 l0 nm0 t0 :: r) nm t) L:=by
 intro lx ly hs n
 have e:fieldV a (.dict lx) nm=fieldV a (.dict ly) nm:=by simp[fieldV,fieldsOf,hs nm h]
 rw[askV]
 unfold stepA
 simp only[show ¬oDot=oValue by decide,show ¬oDot=oSelf by decide,show ¬oDot=oField by decide,if_false,if_true,sub_self]
 split
 ·rfl
 ·split
  ·rfl
  ·simp only[bindA];rw[e]
theorem askSame_at (a:Int) (a0:Int) (l0 r:List Ex) (nm0:ByteArray) (t0:Tm) (a1:Int) (l1:List Ex) (nm1:ByteArray) (b1:Bool) (i1:Int) (f1:Nat) (s:ByteArray) (bs1:List UInt8) (r1:Int) (tl1:List Tm) (td1:List (ByteArray×Tm)) (c1:ByteArray) (v1:Int) (nm:ByteArray) (t:Tm) {L:List ByteArray} (h:s∈L) :
  AskSame (.mk oAt a (.mk oSelf a0 l0 nm0 t0 :: .mk oValue a1 l1 nm1 (.mk 5 b1 i1 f1 s bs1 r1 tl1 td1 c1 v1) :: r) nm t) L:=by
 intro lx ly hs n
 have e:fieldV a (.dict lx) s=fieldV a (.dict ly) s:=by simp[fieldV,fieldsOf,hs s h]
 have hl:literalV (.mk 5 b1 i1 f1 s bs1 r1 tl1 td1 c1 v1)=.text s∨literalV (.mk 5 b1 i1 f1 s bs1 r1 tl1 td1 c1 v1)=.nil:=by
  unfold literalV
  split
  ·left;simp[builtV]
  ·right;rfl
 have hp:placeV' a (.dict lx) (literalV (.mk 5 b1 i1 f1 s bs1 r1 tl1 td1 c1 v1))=placeV' a (.dict ly) (literalV (.mk 5 b1 i1 f1 s bs1 r1 tl1 td1 c1 v1)):=by
  rcases hl with h|h <;> rw[h]
  ·exact e
  ·rfl
 rw[askV]
 unfold stepA
 simp only[show ¬oAt=oValue by decide,show ¬oAt=oSelf by decide,show ¬oAt=oField by decide,show ¬oAt=oDot by decide,show ¬oAt=oOr by decide,show ¬oAt=oAnd by decide,show ¬oAt=oNot by decide,show ¬oAt=oIs by decide,show ¬oAt=oNeg by decide,show ¬oAt=oList by decide,show ¬oAt=oCall by decide,if_false,if_true,sub_self]
 have h1:∀v m,subA (askL (.mk oSelf a0 l0 nm0 t0 :: .mk oValue a1 l1 nm1 (.mk 5 b1 i1 f1 s bs1 r1 tl1 td1 c1 v1) :: r)) 1 v m=if 1048576<m+1 then (.gone a1 2,m+1) else (.val (literalV (.mk 5 b1 i1 f1 s bs1 r1 tl1 td1 c1 v1)),m+1):=by
  intro v m
  rw[askL,askL,askV]
  unfold subA
  simp only[List.getD_cons_succ,List.getD_cons_zero]
  rw[askV]
  unfold stepA
  simp
 split
 ·rfl
 ·split
  ·rfl
  ·simp only[bindA,h1]
   by_cases hq:1048576<n+1+1+1
   ·simp only[if_pos hq]
   ·simp only[if_neg hq,pairV,if_true,hp]
theorem subA_same {l:List Ex} {vx vy:V} {i:Nat} (h:∀x,l[i]?=some x→∀n,askV x vx n=askV x vy n) (n:Nat):subA (askL l) i vx n=subA (askL l) i vy n:=by
 rw[askL_eq]
 unfold subA
 simp only[List.getD_eq_getElem?_getD,List.getElem?_map]
 cases hx:l[i]? with
 | none=>rfl
 | some x=>exact h x hx n
theorem logicA_same (a:Int) (or:Bool) {l:List Ex} {vx vy:V} (h:∀x∈l,∀n,askV x vx n=askV x vy n):∀n,logicA a or (askL l) vx n=logicA a or (askL l) vy n:=by
 induction l with
 | nil=>intro n;rfl
 | cons x r ih =>
  intro n
  rw[askL,logicA,logicA,h x (by simp)]
  have ih':=ih (fun y hy=>h y (by simp[hy]))
  cases askV x vy n with
  | mk o m =>
   cases o with
   | gone b w=>rfl
   | val v =>
    cases v <;> simp only[bindA]
    split
    ·rfl
    ·exact ih' _
theorem listA_same (a:Int) {l:List Ex} {vx vy:V} (h:∀x∈l,∀n,askV x vx n=askV x vy n):∀o n,listA a (askL l) vx o n=listA a (askL l) vy o n:=by
 induction l with
 | nil=>intro o n;rfl
 | cons x r ih =>
  intro o n
  rw[askL,listA,listA,h x (by simp)]
  have ih':=ih (fun y hy=>h y (by simp[hy]))
  cases askV x vy n with
  | mk o m =>
   cases o with
   | gone b w=>rfl
   | val v=>exact ih' _ _
theorem askSame_parts (op:ByteArray) (a:Int) (l:List Ex) (nm:ByteArray) (t:Tm) {L:List ByteArray} (h1:op≠oSelf) (h2:op≠oField) (h:∀(i:Nat) x,l[i]?=some x→¬(i=1∧op=oCall∧turnsB nm=true)→AskSame x L):AskSame (.mk op a l nm t) L:=by
 intro lx ly hs n
 have hi:∀(i:Nat),¬(i=1∧op=oCall∧turnsB nm=true)→∀m,subA (askL l) i (.dict lx) m=subA (askL l) i (.dict ly) m:=fun i hn m=>subA_same (fun x hx n=>h i x hx hn lx ly hs n) m
 have hm:op≠oCall→∀x∈l,∀n,askV x (.dict lx) n=askV x (.dict ly) n:=fun hc x hx n=>by
  obtain ⟨i,hi,rfl⟩:=List.getElem_of_mem hx
  exact h i _ (List.getElem?_eq_getElem hi) (fun hh=>hc hh.2.1) lx ly hs n
 have h0:=hi 0 (fun hh=>absurd hh.1 (by decide))
 rw[askV]
 unfold stepA
 by_cases c0:1048576<n+1
 ·rw[if_pos c0,if_pos c0]
 rw[if_neg c0,if_neg c0]
 by_cases c1:op=oValue
 ·rw[if_pos c1,if_pos c1]
 rw[if_neg c1,if_neg c1,if_neg h1,if_neg h1,if_neg h2,if_neg h2]
 by_cases c2:op=oDot
 ·rw[if_pos c2,if_pos c2,h0]
 rw[if_neg c2,if_neg c2]
 by_cases c3:op=oOr
 ·rw[if_pos c3,if_pos c3];exact logicA_same a true (hm (by rw[c3];decide)) _
 rw[if_neg c3,if_neg c3]
 by_cases c4:op=oAnd
 ·rw[if_pos c4,if_pos c4];exact logicA_same a false (hm (by rw[c4];decide)) _
 rw[if_neg c4,if_neg c4]
 by_cases c5:op=oNot
 ·rw[if_pos c5,if_pos c5,h0]
 rw[if_neg c5,if_neg c5]
 by_cases c6:op=oIs
 ·rw[if_pos c6,if_pos c6,h0]
 rw[if_neg c6,if_neg c6]
 by_cases c7:op=oNeg
 ·rw[if_pos c7,if_pos c7,h0]
 rw[if_neg c7,if_neg c7]
 by_cases c8:op=oList
 ·rw[if_pos c8,if_pos c8];exact listA_same a (hm (by rw[c8];decide)) _ _
 rw[if_neg c8,if_neg c8]
 by_cases c9:op=oCall
 ·rw[if_pos c9,if_pos c9]
  unfold callA
  rw[h0]
  cases ht:turnsB nm with
  | true=>rfl
  | false =>
   have h3:=hi 1 (fun hh=>by rw[ht]at hh;exact absurd hh.2.2 (by decide))
   simp only[h3]
 ·rw[if_neg c9,if_neg c9]
  have h3:=hi 1 (fun hh=>c9 hh.2.1)
  simp only[h0,h3]
theorem rname_any (s:ByteArray) (w:World) (hs:s.size≤140737488351232) :
  Calls Tryz.prog 37 #[.string s] w fun e w'=>e=.returned (.bool (nameB s.data.toList))∧w=w':=by
 by_cases h0:s.size=0
 ·have HF:=Hd (nameB_false_of_len (l:=s.data.toList) (.inl (by rw[len_list];omega)))
  go_enter Tryz.func37,Tryz.ntmps37
  go_wp2
  go_ret
  exact ⟨ret_bool HF.out.symm,rfl⟩
 by_cases h1:32<s.size
 ·have HF:=Hd (nameB_false_of_len (l:=s.data.toList) (.inr (by rw[len_list];omega)))
  clear h0
  go_enter Tryz.func37,Tryz.ntmps37
  go_wp2
  go_ret
  exact ⟨ret_bool HF.out.symm,rfl⟩
 have hp1:1≤s.size:=by omega
 have hp2:s.size≤32:=by omega
 clear h0 h1
 go_enter Tryz.func37,Tryz.ntmps37
 go_wp2
 go_loopw [3] (fun i wr=>∃k:Nat,k≤s.size∧i=.int .i64 k∧okTo s.data.toList k∧w=wr) (fun i _=>s.size-(intOf i).toNat)
 case atStart=>exact ⟨0,by omega,rfl,okTo_zero _,rfl⟩
 case round =>
  obtain ⟨k,hk,rfl,ho,rfl⟩:=hrel
  by_cases hlt:k<s.size
  ·have hc:=get_at s k hlt
   have HC:Hid (∀c,s.data.toList[k]?=some c→c=s[k]):=Hd (fun c h=>by rw[hc]at h;injection h with h;exact h.symm)
   have HO:=Hd ho
   have H:=Hd hc
   clear hc ho
   rcases byte_cases s[k]with ⟨q1,q2⟩|⟨q1,q2⟩|q1|q1|⟨q1,q2⟩|q1|q1
   ·go_wp2
    refine ⟨⟨k+1,by omega,by go_num,okTo_succ HO.out H.out (inName_yes (by omega)) (fun _=>lowB_yes (by omega)),trivial⟩,?_⟩
    simp[intOf];omega
   ·by_cases hk0:k=0
    ·subst hk0
     have HF:=Hd (nameB_bad H.out (.inr ⟨rfl,lowB_no (by omega)⟩))
     go_wp2
     go_ret
     exact ⟨ret_bool HF.out.symm,rfl⟩
    ·have hq:((k:Int)==0)=false:=by rw[beq_eq_false_iff_ne];omega
     have hn:((s[k].toNat:Int)!=95)=true:=by rw[bne_iff_ne];omega
     go_wp2
     refine ⟨⟨k+1,by omega,by go_num,okTo_succ HO.out H.out (inName_yes (by omega)) (fun e=>absurd e hk0),trivial⟩,?_⟩
     simp[intOf];omega
   ·by_cases hk0:k=0
    ·subst hk0
     have HF:=Hd (nameB_bad H.out (.inr ⟨rfl,lowB_no (by omega)⟩))
     have hlo:(s[0].toNat:Int)<97:=by omega
     go_wp2
     go_ret
     exact ⟨ret_bool HF.out.symm,rfl⟩
    ·have hq:((k:Int)==0)=false:=by rw[beq_eq_false_iff_ne];omega
     have hn:((s[k].toNat:Int)!=95)=false:=by rw[q1];rfl
     have hlo:(s[k].toNat:Int)<97:=by omega
     have HI:=Hd (okTo_succ HO.out H.out (inName_yes (by omega)) (fun e=>absurd e hk0))
     clear q1
     go_wp2
     refine ⟨⟨k+1,by omega,by go_num,HI.out,trivial⟩,?_⟩
     simp[intOf];omega
   rotate_right
   ·have HF:=Hd (nameB_bad H.out (.inl (inName_no (by omega))))
    have hn:((s[k].toNat:Int)!=95)=true:=by rw[bne_iff_ne];omega
    have d1:decide ((s[k].toNat:Int)≤122)=false:=by simp;omega
    have d2:decide ((s[k].toNat:Int)<48)=false:=by simp;omega
    have d3:decide ((57:Int)<(s[k].toNat:Int))=true:=by simp;omega
    have d4:decide ((97:Int)≤(s[k].toNat:Int))=true:=by simp;omega
    have e1:¬(s[k].toNat:Int)≤122:=by omega
    have e2:¬(s[k].toNat:Int)<48:=by omega
    have e3:(57:Int)<(s[k].toNat:Int):=by omega
    have e4:(97:Int)≤(s[k].toNat:Int):=by omega
    by_cases hk0:k=0
    ·subst hk0
     go_wp2
     go_ret
     exact ⟨ret_bool HF.out.symm,rfl⟩
    ·have hq:((k:Int)==0)=false:=by rw[beq_eq_false_iff_ne];omega
     go_wp2
     go_ret
     exact ⟨ret_bool HF.out.symm,rfl⟩
   all_goals
    have HF:=Hd (nameB_bad H.out (.inl (inName_no (by omega))))
    have hn:((s[k].toNat:Int)!=95)=true:=by rw[bne_iff_ne];omega
    by_cases hk0:k=0
    ·subst hk0
     go_wp2
     go_ret
     exact ⟨ret_bool HF.out.symm,rfl⟩
    ·have hq:((k:Int)==0)=false:=by rw[beq_eq_false_iff_ne];omega
     go_wp2
     go_ret
     exact ⟨ret_bool HF.out.symm,rfl⟩
  ·obtain rfl:k=s.size:=by omega
   have HF:=Hd (nameB_of_ok (l:=s.data.toList) (by simpa using hp1) (by simpa using hp2) (by simpa using ho))
   clear ho
   go_wp2
   go_ret
   exact ⟨ret_bool HF.out.symm,rfl⟩
end Go.Proofs.YtbemeapjeipjlaaGreatDoor
