/- Walks: query.whole, float, negative. -/
import Derived.Test.YtbemeapjeipjlaaGreatDoorQN13
import Derived.Lib.AppendZeros
import Derived.Lib.LazyBuf
set_option linter.unusedVariables false
set_option linter.unusedSimpArgs false
namespace Go.Proofs.YtbemeapjeipjlaaGreatDoor
open Go Go.RowKit
set_option maxRecDepth 100000
set_option maxHeartbeats 8000000
attribute [local go_sem] ta_no_bool ta_yes_bool ta_nil_bool ta_no_int64 ta_yes_int64 ta_nil_int64 ta_no_flt ta_yes_flt ta_nil_flt ta_no_str ta_yes_str ta_nil_str ta_no_byt ta_yes_byt ta_nil_byt ta_no_ref ta_yes_ref ta_nil_ref ta_no_lst ta_yes_lst ta_nil_lst ta_no_dct ta_yes_dct ta_nil_dct ta_no_rec ta_yes_rec ta_nil_rec
theorem wrap_in (n:Int):-9223372036854775808≤wrap64 n∧wrap64 n≤9223372036854775807:=by
 unfold wrap64;omega
theorem mulO_yes {u v:Int} (g0:¬u=0) (g1:¬v=0) (q:(wrap64 ((wrap64 (u*v)).tdiv v)==u)=true) (h:((u==-1)&&(v==-9223372036854775808))=false) (h2:((v==-1)&&(u==-9223372036854775808))=false):mulO u v=some (wrap64 (u*v)):=by
 unfold mulO
 rw[if_neg (by omega),if_pos ⟨eq_of_beq q,by rintro ⟨rfl,rfl⟩;simp at h,by rintro ⟨rfl,rfl⟩;simp at h2⟩]
theorem mulO_no {u v:Int} (g0:¬u=0) (g1:¬v=0) (h:(wrap64 ((wrap64 (u*v)).tdiv v)==u)=false∨((u==-1)&&(v==-9223372036854775808))=true∨((v==-1)&&(u==-9223372036854775808))=true):mulO u v=none:=by
 unfold mulO
 rw[if_neg (by omega),if_neg]
 rintro ⟨h1,h2,h3⟩
 rcases h with h|h|h
 ·rw[h1]at h;simp at h
 ·simp at h;exact h2 h
 ·simp at h;exact h3 h
theorem tmod_in (u v:Int) (h:-9223372036854775808≤u∧u≤9223372036854775807):-9223372036854775808≤u.tmod v∧u.tmod v≤9223372036854775807:=by
 have h1:=Int.natAbs_tmod u v
 have h2:=Nat.mod_le u.natAbs v.natAbs
 by_cases h0:0≤u
 ·have:=Int.tmod_nonneg v h0
  omega
 ·have h3:0≤(-u).tmod v:=Int.tmod_nonneg v (by omega)
  rw[Int.neg_tmod]at h3
  omega
theorem whole_add (a:Int) (p:Value) (nm:ByteArray) (y:List Value) (hy:Eleven y) (hp:p.oneCell'=true) (u v:Int) (S:Nat→Prop) (w:World) (hu:-9223372036854775808≤u∧u≤9223372036854775807) (hv:-9223372036854775808≤v∧v≤9223372036854775807) :
  Calls Tryz.prog 101 #[eV oAdd a p nm y,.int .i64 u,.int .i64 v] w (OutPost S (intOut a (wholeO oAdd u v)) w):=by
 have HBad:=Hd (fun (W:World)=>bad_any oAdd a p nm y hy hp W)
 obtain ⟨n0,n1,n2,n3,n4,n5,n6,n7,n8,n9,n10,rfl,h1⟩:=hy
 clear h1
 unfold eV at *
 have HB:Hid (Below w.heap.size w (w.alloc (.cells #[.string oAdd,.int .i64 a,p,.string nm,n0,n1,n2,n3,n4,n5,n6,n7,n8,n9,n10] 32))):=Hd bnew
 have hwr:=wrap_in (u+v)
 have HU:Hid (wholeO oAdd u v=addO u v):=Hd (by unfold wholeO;rw[if_pos rfl])
 by_cases g1:u<wrap64 (u+v)
 ·by_cases g2:0<v
  ·have HF:Hid (intOut a (wholeO oAdd u v)=.val (.int (wrap64 (u+v)))):=Hd (by rw[HU.out];unfold addO;simp[g1,g2,intOut])
   clear HU
   go_enter Tryz.func101,Tryz.ntmps101
   go_wp2
   go_ret
   exact ⟨HB.out,by rw[HF.out];exact ⟨_,rfl,rfl,by first|exact hwr|omega⟩⟩
  ·have HF:Hid (intOut a (wholeO oAdd u v)=.gone a 172):=Hd (by rw[HU.out];unfold addO;simp[g1,g2,intOut])
   clear HU
   go_enter Tryz.func101,Tryz.ntmps101
   go_wp2_with fail
   refine (HBad.out _).mono ?_
   rintro e w9 ⟨rfl,hb9⟩
   exact ⟨rfl,HB.out.trans (hb9.mono (by simp)),by rw[HF.out]⟩
 ·by_cases g2:0<v
  ·have HF:Hid (intOut a (wholeO oAdd u v)=.gone a 172):=Hd (by rw[HU.out];unfold addO;simp[g1,g2,intOut])
   clear HU
   go_enter Tryz.func101,Tryz.ntmps101
   go_wp2_with fail
   refine (HBad.out _).mono ?_
   rintro e w9 ⟨rfl,hb9⟩
   exact ⟨rfl,HB.out.trans (hb9.mono (by simp)),by rw[HF.out]⟩
  ·have HF:Hid (intOut a (wholeO oAdd u v)=.val (.int (wrap64 (u+v)))):=Hd (by rw[HU.out];unfold addO;simp[g1,g2,intOut])
   clear HU
   go_enter Tryz.func101,Tryz.ntmps101
   go_wp2
   go_ret
   exact ⟨HB.out,by rw[HF.out];exact ⟨_,rfl,rfl,by first|exact hwr|omega⟩⟩
theorem whole_sub (a:Int) (p:Value) (nm:ByteArray) (y:List Value) (hy:Eleven y) (hp:p.oneCell'=true) (u v:Int) (S:Nat→Prop) (w:World) (hu:-9223372036854775808≤u∧u≤9223372036854775807) (hv:-9223372036854775808≤v∧v≤9223372036854775807) :
  Calls Tryz.prog 101 #[eV oSub a p nm y,.int .i64 u,.int .i64 v] w (OutPost S (intOut a (wholeO oSub u v)) w):=by
 have HBad:=Hd (fun (W:World)=>bad_any oSub a p nm y hy hp W)
 obtain ⟨n0,n1,n2,n3,n4,n5,n6,n7,n8,n9,n10,rfl,h1⟩:=hy
 clear h1
 unfold eV at *
 have HB:Hid (Below w.heap.size w (w.alloc (.cells #[.string oSub,.int .i64 a,p,.string nm,n0,n1,n2,n3,n4,n5,n6,n7,n8,n9,n10] 32))):=Hd bnew
 have hwr:=wrap_in (u-v)
 have HU:Hid (wholeO oSub u v=subO u v):=Hd (by unfold wholeO;rw[if_neg (by decide),if_pos rfl])
 by_cases g1:wrap64 (u-v)<u
 ·by_cases g2:0<v
  ·have HF:Hid (intOut a (wholeO oSub u v)=.val (.int (wrap64 (u-v)))):=Hd (by rw[HU.out];unfold subO;simp[g1,g2,intOut])
   clear HU
   go_enter Tryz.func101,Tryz.ntmps101
   go_wp2
   go_ret
   exact ⟨HB.out,by rw[HF.out];exact ⟨_,rfl,rfl,by first|exact hwr|omega⟩⟩
  ·have HF:Hid (intOut a (wholeO oSub u v)=.gone a 172):=Hd (by rw[HU.out];unfold subO;simp[g1,g2,intOut])
   clear HU
   go_enter Tryz.func101,Tryz.ntmps101
   go_wp2_with fail
   refine (HBad.out _).mono ?_
   rintro e w9 ⟨rfl,hb9⟩
   exact ⟨rfl,HB.out.trans (hb9.mono (by simp)),by rw[HF.out]⟩
 ·by_cases g2:0<v
  ·have HF:Hid (intOut a (wholeO oSub u v)=.gone a 172):=Hd (by rw[HU.out];unfold subO;simp[g1,g2,intOut])
   clear HU
   go_enter Tryz.func101,Tryz.ntmps101
   go_wp2_with fail
   refine (HBad.out _).mono ?_
   rintro e w9 ⟨rfl,hb9⟩
   exact ⟨rfl,HB.out.trans (hb9.mono (by simp)),by rw[HF.out]⟩
  ·have HF:Hid (intOut a (wholeO oSub u v)=.val (.int (wrap64 (u-v)))):=Hd (by rw[HU.out];unfold subO;simp[g1,g2,intOut])
   clear HU
   go_enter Tryz.func101,Tryz.ntmps101
   go_wp2
   go_ret
   exact ⟨HB.out,by rw[HF.out];exact ⟨_,rfl,rfl,by first|exact hwr|omega⟩⟩
theorem whole_mul (a:Int) (p:Value) (nm:ByteArray) (y:List Value) (hy:Eleven y) (hp:p.oneCell'=true) (u v:Int) (S:Nat→Prop) (w:World) (hu:-9223372036854775808≤u∧u≤9223372036854775807) (hv:-9223372036854775808≤v∧v≤9223372036854775807) :
  Calls Tryz.prog 101 #[eV oMul a p nm y,.int .i64 u,.int .i64 v] w (OutPost S (intOut a (wholeO oMul u v)) w):=by
 have HBad:=Hd (fun (W:World)=>bad_any oMul a p nm y hy hp W)
 obtain ⟨n0,n1,n2,n3,n4,n5,n6,n7,n8,n9,n10,rfl,h1⟩:=hy
 clear h1
 unfold eV at *
 have HB:Hid (Below w.heap.size w (w.alloc (.cells #[.string oMul,.int .i64 a,p,.string nm,n0,n1,n2,n3,n4,n5,n6,n7,n8,n9,n10] 32))):=Hd bnew
 have hwr:=wrap_in (u*v)
 have HU:Hid (wholeO oMul u v=mulO u v):=Hd (by unfold wholeO;rw[if_neg (by decide),if_neg (by decide),if_pos rfl])
 by_cases g0:u=0
 ·have HF:Hid (intOut a (wholeO oMul u v)=.val (.int 0)):=Hd (by rw[HU.out];unfold mulO;simp[g0,intOut])
  clear HU
  go_enter Tryz.func101,Tryz.ntmps101
  go_wp2
  go_ret
  exact ⟨HB.out,by rw[HF.out];exact ⟨_,rfl,rfl,by first|exact hwr|omega⟩⟩
 by_cases g1:v=0
 ·have HF:Hid (intOut a (wholeO oMul u v)=.val (.int 0)):=Hd (by rw[HU.out];unfold mulO;simp[g1,intOut])
  clear HU
  go_enter Tryz.func101,Tryz.ntmps101
  go_wp2
  go_ret
  exact ⟨HB.out,by rw[HF.out];exact ⟨_,rfl,rfl,by first|exact hwr|omega⟩⟩
 have z0:(u==0)=false:=by simpa using g0
 have z1:(v==0)=false:=by simpa using g1
 cases q:(wrap64 ((wrap64 (u*v)).tdiv v)==u)
 ·have HF:Hid (intOut a (wholeO oMul u v)=.gone a 172):=Hd (by rw[HU.out,mulO_no g0 g1 (by first|exact .inl q|exact .inr (.inl (by rw[e1,e2];rfl))|exact .inr (.inr (by rw[e3,e4];rfl)))];rfl)
  clear HU
  go_enter Tryz.func101,Tryz.ntmps101
  go_wp2_with fail
  refine (HBad.out _).mono ?_
  rintro e w9 ⟨rfl,hb9⟩
  exact ⟨rfl,HB.out.trans (hb9.mono (by simp)),by rw[HF.out]⟩
 ·cases e1:(u==-1)
  ·cases e3:(v==-1)
   ·have HF:Hid (intOut a (wholeO oMul u v)=.val (.int (wrap64 (u*v)))):=Hd (by rw[HU.out,mulO_yes g0 g1 q (by first|(rw[e1];rfl)|(rw[e1,e2];rfl)) (by first|(rw[e3];rfl)|(rw[e3,e4];rfl))];rfl)
    clear HU
    go_enter Tryz.func101,Tryz.ntmps101
    go_wp2
    go_ret
    exact ⟨HB.out,by rw[HF.out];exact ⟨_,rfl,rfl,by first|exact hwr|omega⟩⟩
   ·cases e4:(u==-9223372036854775808)
    ·have HF:Hid (intOut a (wholeO oMul u v)=.val (.int (wrap64 (u*v)))):=Hd (by rw[HU.out,mulO_yes g0 g1 q (by first|(rw[e1];rfl)|(rw[e1,e2];rfl)) (by first|(rw[e3];rfl)|(rw[e3,e4];rfl))];rfl)
     clear HU
     go_enter Tryz.func101,Tryz.ntmps101
     go_wp2
     go_ret
     exact ⟨HB.out,by rw[HF.out];exact ⟨_,rfl,rfl,by first|exact hwr|omega⟩⟩
    ·have HF:Hid (intOut a (wholeO oMul u v)=.gone a 172):=Hd (by rw[HU.out,mulO_no g0 g1 (by first|exact .inl q|exact .inr (.inl (by rw[e1,e2];rfl))|exact .inr (.inr (by rw[e3,e4];rfl)))];rfl)
     clear HU
     go_enter Tryz.func101,Tryz.ntmps101
     go_wp2_with fail
     refine (HBad.out _).mono ?_
     rintro e w9 ⟨rfl,hb9⟩
     exact ⟨rfl,HB.out.trans (hb9.mono (by simp)),by rw[HF.out]⟩
  ·cases e2:(v==-9223372036854775808)
   ·cases e3:(v==-1)
    ·have HF:Hid (intOut a (wholeO oMul u v)=.val (.int (wrap64 (u*v)))):=Hd (by rw[HU.out,mulO_yes g0 g1 q (by first|(rw[e1];rfl)|(rw[e1,e2];rfl)) (by first|(rw[e3];rfl)|(rw[e3,e4];rfl))];rfl)
     clear HU
     go_enter Tryz.func101,Tryz.ntmps101
     go_wp2
     go_ret
     exact ⟨HB.out,by rw[HF.out];exact ⟨_,rfl,rfl,by first|exact hwr|omega⟩⟩
    ·cases e4:(u==-9223372036854775808)
     ·have HF:Hid (intOut a (wholeO oMul u v)=.val (.int (wrap64 (u*v)))):=Hd (by rw[HU.out,mulO_yes g0 g1 q (by first|(rw[e1];rfl)|(rw[e1,e2];rfl)) (by first|(rw[e3];rfl)|(rw[e3,e4];rfl))];rfl)
      clear HU
      go_enter Tryz.func101,Tryz.ntmps101
      go_wp2
      go_ret
      exact ⟨HB.out,by rw[HF.out];exact ⟨_,rfl,rfl,by first|exact hwr|omega⟩⟩
     ·have HF:Hid (intOut a (wholeO oMul u v)=.gone a 172):=Hd (by rw[HU.out,mulO_no g0 g1 (by first|exact .inl q|exact .inr (.inl (by rw[e1,e2];rfl))|exact .inr (.inr (by rw[e3,e4];rfl)))];rfl)
      clear HU
      go_enter Tryz.func101,Tryz.ntmps101
      go_wp2_with fail
      refine (HBad.out _).mono ?_
      rintro e w9 ⟨rfl,hb9⟩
      exact ⟨rfl,HB.out.trans (hb9.mono (by simp)),by rw[HF.out]⟩
   ·have HF:Hid (intOut a (wholeO oMul u v)=.gone a 172):=Hd (by rw[HU.out,mulO_no g0 g1 (by first|exact .inl q|exact .inr (.inl (by rw[e1,e2];rfl))|exact .inr (.inr (by rw[e3,e4];rfl)))];rfl)
    clear HU
    go_enter Tryz.func101,Tryz.ntmps101
    go_wp2_with fail
    refine (HBad.out _).mono ?_
    rintro e w9 ⟨rfl,hb9⟩
    exact ⟨rfl,HB.out.trans (hb9.mono (by simp)),by rw[HF.out]⟩
theorem whole_div (a:Int) (p:Value) (nm:ByteArray) (y:List Value) (hy:Eleven y) (hp:p.oneCell'=true) (u v:Int) (S:Nat→Prop) (w:World) (hu:-9223372036854775808≤u∧u≤9223372036854775807) (hv:-9223372036854775808≤v∧v≤9223372036854775807) :
  Calls Tryz.prog 101 #[eV oDiv a p nm y,.int .i64 u,.int .i64 v] w (OutPost S (intOut a (wholeO oDiv u v)) w):=by
 have HBad:=Hd (fun (W:World)=>bad_any oDiv a p nm y hy hp W)
 obtain ⟨n0,n1,n2,n3,n4,n5,n6,n7,n8,n9,n10,rfl,h1⟩:=hy
 clear h1
 unfold eV at *
 have HB:Hid (Below w.heap.size w (w.alloc (.cells #[.string oDiv,.int .i64 a,p,.string nm,n0,n1,n2,n3,n4,n5,n6,n7,n8,n9,n10] 32))):=Hd bnew
 have hwr:=wrap_in (u.tdiv v)
 have HU:Hid (wholeO oDiv u v=divO u v):=Hd (by unfold wholeO;rw[if_neg (by decide),if_neg (by decide),if_neg (by decide),if_pos rfl])
 by_cases g1:v=0
 ·subst g1
  have HF:Hid (intOut a (wholeO oDiv u 0)=.gone a 172):=Hd (by rw[HU.out];rfl)
  clear HU
  go_enter Tryz.func101,Tryz.ntmps101
  go_wp2_with fail
  refine (HBad.out _).mono ?_
  rintro e w9 ⟨rfl,hb9⟩
  exact ⟨rfl,HB.out.trans (hb9.mono (by simp)),by rw[HF.out]⟩
 cases e4:(u==-9223372036854775808)
 ·have HF:Hid (intOut a (wholeO oDiv u v)=.val (.int (wrap64 (u.tdiv v)))):=Hd (by rw[HU.out];unfold divO;simp only[beq_iff_eq,beq_eq_false_iff_ne,bne_iff_ne,ne_eq]at *;simp[*,intOut])
  clear HU
  go_enter Tryz.func101,Tryz.ntmps101
  go_wp2
  go_ret
  exact ⟨HB.out,by rw[HF.out];exact ⟨_,rfl,rfl,by first|exact hwr|omega⟩⟩
 ·cases e3:(v==-1)
  ·have HF:Hid (intOut a (wholeO oDiv u v)=.val (.int (wrap64 (u.tdiv v)))):=Hd (by rw[HU.out];unfold divO;simp only[beq_iff_eq,beq_eq_false_iff_ne,bne_iff_ne,ne_eq]at *;simp[*,intOut])
   clear HU
   go_enter Tryz.func101,Tryz.ntmps101
   go_wp2
   go_ret
   exact ⟨HB.out,by rw[HF.out];exact ⟨_,rfl,rfl,by first|exact hwr|omega⟩⟩
  ·have HF:Hid (intOut a (wholeO oDiv u v)=.gone a 172):=Hd (by rw[HU.out];unfold divO;simp only[beq_iff_eq,beq_eq_false_iff_ne,bne_iff_ne,ne_eq]at *;simp[*,intOut])
   clear HU
   go_enter Tryz.func101,Tryz.ntmps101
   go_wp2_with fail
   refine (HBad.out _).mono ?_
   rintro e w9 ⟨rfl,hb9⟩
   exact ⟨rfl,HB.out.trans (hb9.mono (by simp)),by rw[HF.out]⟩
theorem whole_rem (a:Int) (p:Value) (nm:ByteArray) (y:List Value) (hy:Eleven y) (hp:p.oneCell'=true) (u v:Int) (S:Nat→Prop) (w:World) (hu:-9223372036854775808≤u∧u≤9223372036854775807) (hv:-9223372036854775808≤v∧v≤9223372036854775807) :
  Calls Tryz.prog 101 #[eV oRem a p nm y,.int .i64 u,.int .i64 v] w (OutPost S (intOut a (wholeO oRem u v)) w):=by
 have HBad:=Hd (fun (W:World)=>bad_any oRem a p nm y hy hp W)
 obtain ⟨n0,n1,n2,n3,n4,n5,n6,n7,n8,n9,n10,rfl,h1⟩:=hy
 clear h1
 unfold eV at *
 have HB:Hid (Below w.heap.size w (w.alloc (.cells #[.string oRem,.int .i64 a,p,.string nm,n0,n1,n2,n3,n4,n5,n6,n7,n8,n9,n10] 32))):=Hd bnew
 have hwr:=tmod_in u v hu
 have HU:Hid (wholeO oRem u v=remO u v):=Hd (by unfold wholeO;rw[if_neg (by decide),if_neg (by decide),if_neg (by decide),if_neg (by decide),if_pos rfl])
 cases e3:(v==-1)
 ·by_cases g1:v=0
  ·subst g1
   have HF:Hid (intOut a (wholeO oRem u 0)=.gone a 172):=Hd (by rw[HU.out];rfl)
   clear HU
   go_enter Tryz.func101,Tryz.ntmps101
   go_wp2_with fail
   refine (HBad.out _).mono ?_
   rintro e w9 ⟨rfl,hb9⟩
   exact ⟨rfl,HB.out.trans (hb9.mono (by simp)),by rw[HF.out]⟩
  ·have HF:Hid (intOut a (wholeO oRem u v)=.val (.int (u.tmod v))):=Hd (by rw[HU.out];unfold remO;simp only[beq_iff_eq,beq_eq_false_iff_ne,bne_iff_ne,ne_eq]at *;simp[*,intOut])
   clear HU
   go_enter Tryz.func101,Tryz.ntmps101
   go_wp2
   go_ret
   exact ⟨HB.out,by rw[HF.out];exact ⟨_,rfl,rfl,by first|exact hwr|omega⟩⟩
 ·have HF:Hid (intOut a (wholeO oRem u v)=.val (.int 0)):=Hd (by rw[HU.out];unfold remO;simp only[beq_iff_eq,beq_eq_false_iff_ne,bne_iff_ne,ne_eq]at *;simp[*,intOut])
  clear HU
  go_enter Tryz.func101,Tryz.ntmps101
  go_wp2
  go_ret
  exact ⟨HB.out,by rw[HF.out];exact ⟨_,rfl,rfl,by first|exact hwr|omega⟩⟩
def FloatPost (r:Option Nat) (w:World) (e:Ending) (w':World):Prop:=e=.returned (.tuple #[.float .f64 (r.getD 0),.bool r.isSome])∧w=w'
theorem float_any (x:V) (v:Value) (S:Nat→Prop) (w:World) (hx:RdS w S x v):Calls Tryz.prog 102 #[v] w (FloatPost (floatOf x) w):=by
 by_cases h3:kindV x=3
 ·obtain ⟨n,rfl⟩:=kind_is_int h3
  obtain ⟨rfl,_⟩:=hx
  go_enter Tryz.func102,Tryz.ntmps102
  go_wp2
  go_ret2
  exact ⟨rfl,rfl⟩
 by_cases h4:kindV x=4
 ·obtain ⟨n,rfl⟩:=kind_is_flt h4
  obtain rfl:=hx
  go_enter Tryz.func102,Tryz.ntmps102
  go_wp2
  go_ret2
  exact ⟨rfl,rfl⟩
 ·have HF:Hid (floatOf x=none):=Hd (by cases x <;> first|rfl|exact absurd rfl h3|exact absurd rfl h4)
  have k0:=not_int hx 20 w h3
  have k1:=not_flt hx 20 w h4
  clear hx h3 h4
  go_enter Tryz.func102,Tryz.ntmps102
  go_wp2
  go_ret2
  exact ⟨by rw[HF.out];rfl,rfl⟩
theorem negative_any (op:ByteArray) (a:Int) (p:Value) (nm:ByteArray) (y:List Value) (hy:Eleven y) (hp:p.oneCell'=true) (x:V) (v:Value) (S:Nat→Prop) (w:World) (hx:RdS w S x v):Calls Tryz.prog 64 #[eV op a p nm y,v] w (OutPost S (negV a x) w):=by
 have HBad:=Hd (fun (W:World)=>bad_any op a p nm y hy hp W)
 obtain ⟨n0,n1,n2,n3,n4,n5,n6,n7,n8,n9,n10,rfl,h1⟩:=hy
 clear h1
 unfold eV at *
 have HB:Hid (Below w.heap.size w (w.alloc (.cells #[.string op,.int .i64 a,p,.string nm,n0,n1,n2,n3,n4,n5,n6,n7,n8,n9,n10] 32))):=Hd bnew
 by_cases h3:kindV x=3
 ·obtain ⟨n,rfl⟩:=kind_is_int h3
  obtain ⟨rfl,hn1,hn2⟩:=hx
  cases hm:(n==-9223372036854775808)
  ·have hwr:-9223372036854775808≤-n∧-n≤9223372036854775807:=by simp at hm;omega
   have hw:wrap64 (0-n)=-n:=by unfold wrap64;omega
   have hw':wrap64 (-n)=-n:=by unfold wrap64;omega
   have hne:(n != -9223372036854775808)=true:=by simp[bne,hm]
   have HF:Hid (negV a (.int n)=.val (.int (-n))):=Hd (by simp at hm;rw[negV,if_neg hm])
   go_enter Tryz.func64,Tryz.ntmps64
   go_wp2
   go_ret
   exact ⟨HB.out,by rw[HF.out];exact ⟨_,rfl,by first|rfl|(rw[hw])|(simp[hw]),hwr⟩⟩
  ·have hne:(n != -9223372036854775808)=false:=by simp[bne,hm]
   have HF:Hid (negV a (.int n)=.gone a 172):=Hd (by simp at hm;rw[negV,if_pos hm])
   go_enter Tryz.func64,Tryz.ntmps64
   go_wp2_with fail
   refine (HBad.out _).mono ?_
   rintro e w9 ⟨rfl,hb9⟩
   exact ⟨rfl,HB.out.trans (hb9.mono (by simp)),by rw[HF.out]⟩
 by_cases h4:kindV x=4
 ·obtain ⟨n,rfl⟩:=kind_is_flt h4
  obtain rfl:=hx
  have HO:=Hd (fun (W:World)=>one_any (Op.negFloat .f64 n) W)
  have k2:∀(W:World),(Op.unary .neg (.float .f64 n)).run Tryz.prog W=.ok (.float .f64 (Op.negFloat .f64 n)) W:=fun _=>rfl
  have HF:Hid (negV a (.flt n)=.val (.flt (oneV (Op.negFloat .f64 n)))):=Hd rfl
  go_enter Tryz.func64,Tryz.ntmps64
  go_wp2_with fail
  refine (HO.out _).mono ?_
  rintro e w1 ⟨rfl,rfl⟩
  go_wp2
  go_ret
  exact ⟨HB.out,by rw[HF.out];exact ⟨_,rfl,rfl⟩⟩
 ·have HF:Hid (negV a x=.gone a 172):=Hd (by cases x <;> first|rfl|exact absurd rfl h3|exact absurd rfl h4)
  have k0:=not_int hx 20 (w.alloc (.cells #[.string op,.int .i64 a,p,.string nm,n0,n1,n2,n3,n4,n5,n6,n7,n8,n9,n10] 32)) h3
  have k1:=not_flt hx 20 (w.alloc (.cells #[.string op,.int .i64 a,p,.string nm,n0,n1,n2,n3,n4,n5,n6,n7,n8,n9,n10] 32)) h4
  clear hx h3 h4
  go_enter Tryz.func64,Tryz.ntmps64
  go_wp2_with fail
  refine (HBad.out _).mono ?_
  rintro e w9 ⟨rfl,hb9⟩
  exact ⟨rfl,HB.out.trans (hb9.mono (by simp)),by rw[HF.out]⟩
def GrowPost (w:World) (e:Ending) (w':World):Prop:=∃v,e=.returned v∧w'.ownsRow w.heap.size 5 1 v 0 []∧Below w.heap.size w w'
theorem grow_any (n:Nat) (w:World) (hn:n≤140737488355328):Calls Tryz.prog 153 #[.slice none 0 0,.int .i64 n] w (GrowPost w):=by
 obtain ⟨i0,hi0,hz0,hz1,hz2⟩:=info_parts Tryz.infoByte
 by_cases h0:n=0
 ·subst h0
  go_enter Tryz.func153,Tryz.ntmps153
  go_wp2
  go_ret
  exact ⟨_,rfl,World.ownsRow_nil _ _ _ _,Below.refl _ _⟩
 ·have hr:=Lib.run_append_nil_zeros (P:=Tryz.prog) w 24 3 24 5 i0 _ .i64 .i64 Tryz.underlying24 Tryz.underlying3 hi0 hz0 n (by omega) (by omega) (by omega) (by rw[hz2];omega)
  have hge:=grownCap_ge w n 0 5
  have hle:=grownCap_le_maxLen w n 0 5 (by simp only[maxLen];omega)
  have hown:(w.drew.alloc (.cells (Builtin.zeroCells (Value.cells (.int .u8 0)) n++Builtin.zeroCells (Value.cells (.int .u8 0)) (grownCap w n 0 5-n)) 5)).ownsRow w.heap.size 5 1 (.slice (some ⟨w.heap.size,0,none⟩) 0 (grownCap w n 0 5)) 0 []:=
   World.ownsRow_made w.drew _ _ (Nat.le_refl _) hle (by rw[Array.size_append,size_zeroCells,size_zeroCells,show (Value.cells (.int .u8 0)).size=1 from rfl];omega)
  have hb:Below w.heap.size w (w.drew.alloc (.cells (Builtin.zeroCells (Value.cells (.int .u8 0)) n++Builtin.zeroCells (Value.cells (.int .u8 0)) (grownCap w n 0 5-n)) 5)):=((Below.refl _ _).drew).alloc (Nat.le_refl _) _
  have hlt:(n:Int)>0:=by omega
  generalize grownCap w n 0 5=cap at *
  generalize hW:w.drew.alloc (.cells (Builtin.zeroCells (Value.cells (.int .u8 0)) n++Builtin.zeroCells (Value.cells (.int .u8 0)) (cap-n)) 5)=W at *
  clear hW
  go_enter Tryz.func153,Tryz.ntmps153
  go_wp2_with (at_builtin;refine Lib.wpList_append_run _ rfl _ _ _ _ rfl _ _ rfl rfl _ _ hr ?_)
  go_wp2
  go_ret
  exact ⟨_,rfl,hown,hb⟩
theorem ByteRow.face {w:World} {S:Nat→Prop} {A:Option Addr} {c:Nat} {l:List UInt8} (h:ByteRow w S A l) (hn:A=none→c=0):(A=none∧l=[]∧c=0)∨∃ad,A=some ad∧∀j u,(bvals l)[j]?=some u→w.cell? (ad.add j)=some u:=by
 cases A with
 | none =>
  rcases h with h|⟨b,off,h,_⟩
  ·exact .inl ⟨rfl,h,hn rfl⟩
  ·cases h
 | some ad=>exact .inr ⟨ad,rfl,ByteRow.news h⟩
def ConcatPost (l:List UInt8) (w:World) (e:Ending) (w':World):Prop:=∃A c,e=.returned (.slice A l.length c)∧(A=none→c=0)∧ByteRow w' (New w w') A l∧Below w.heap.size w w'
theorem concat_any (x y:List UInt8) (A1 A2:Option Addr) (c1 c2:Nat) (S:Nat→Prop) (w:World) (bl:Nat) (hx:ByteRow w S A1 x) (hy:ByteRow w S A2 y) (hn1:A1=none→c1=0) (hn2:A2=none→c2=0) (hS:∀b,S b→b<w.heap.size)
  (hl1:x.length≤65536) (hl2:y.length≤65536) (hbl:bl<w.heap.size) (q0:w.cell? ⟨bl,0,none⟩=some (.slice A1 x.length c1)) (q1:w.cell? ⟨bl,1,none⟩=some (.slice A2 y.length c2)) :
  Calls Tryz.prog 136 #[.slice (some ⟨bl,0,none⟩) 2 2] w (ConcatPost (x++y) w):=by
 obtain ⟨i0,hi0,hz0,hz1,hz2⟩:=info_parts Tryz.infoByte
 have HG:Hid (∀n:Nat,n≤140737488355328→Calls Tryz.prog 153 #[.slice none 0 0,.int .i64 n] w (GrowPost w)):=Hd (fun n hn=>grow_any n w hn)
 go_enter Tryz.func136,Tryz.ntmps136
 go_wp2
 go_loopw [3,11] (fun s i wr=>(i=.int .i64 0∧s=.int .i64 0∨i=.int .i64 1∧s=.int .i64 x.length∨i=.int .i64 2∧s=.int .i64 (x.length+y.length))∧w=wr) (fun _ i _=>2-(intOf i).toNat)
 case atStart=>exact ⟨.inl ⟨rfl,rfl⟩,rfl⟩
 case round =>
  obtain ⟨hrel,rfl⟩:=hrel
  rcases hrel with ⟨rfl,rfl⟩|⟨rfl,rfl⟩|⟨rfl,rfl⟩
  ·have e0:wrap64 (x.length:Int)=x.length:=by unfold wrap64;omega
   go_wp2
   refine ⟨⟨.inr (.inl ⟨rfl,by simp[e0]⟩),trivial⟩,?_⟩
   simp[intOf]
  ·have e0:wrap64 ((x.length:Int)+y.length)=x.length+y.length:=by unfold wrap64;omega
   go_wp2
   refine ⟨⟨.inr (.inr ⟨rfl,by simp[e0]⟩),trivial⟩,?_⟩
   simp[intOf]
  ·have HG2:=Hd (HG.out (x.length+y.length) (by omega))
   clear HG
   go_wp2_with fail
   refine (by have:=HG2.out;rw[Int.natCast_add]at this;exact this:Calls Tryz.prog 153 #[.slice none 0 0,.int .i64 ((x.length:Int)+y.length)] w (GrowPost w)).mono ?_
   rintro e w1 ⟨v1,rfl,hown,hb1⟩
   have hz:=hb1.size
   go_wp2
   go_loopw [6,27] (fun v i wr=>(i=.int .i64 0∧wr.ownsRow w.heap.size 5 1 v 0 []∨i=.int .i64 1∧wr.ownsRow w.heap.size 5 1 v x.length (bvals x)∨i=.int .i64 2∧wr.ownsRow w.heap.size 5 1 v (x.length+y.length) (bvals x++bvals y))∧Below w.heap.size w wr) (fun _ i _=>2-(intOf i).toNat)
   case atStart=>exact ⟨.inl ⟨rfl,hown⟩,hb1⟩
   case round =>
    clear hown hb1 hz
    obtain ⟨hrel,hb⟩:=hrel
    have hz:=hb.size
    have p0:=(hb.cell (p:=⟨bl,0,none⟩) hbl).trans q0
    have p1:=(hb.cell (p:=⟨bl,1,none⟩) hbl).trans q1
    rcases hrel with ⟨rfl,hown⟩|⟨rfl,hown⟩|⟨rfl,hown⟩
    ·rcases (hx.keep (fun p hp=>hb.cell (hS _ hp))).face hn1 with ⟨rfl,rfl,rfl⟩|⟨ad,rfl,hnw⟩
     ·go_wp2_with (at_builtin;refine wpList_append_own_none rfl _ _ 24 rfl w.heap.size 5 i0 1 Tryz.underlying24 hi0 _ 0 [] rfl hown rfl ?_)
      go_wp2
      refine ⟨⟨_,_,_,.inr (.inl ⟨rfl,by simpa [bvals] using hown⟩),rfl,rfl,rfl⟩,?_⟩
      simp[intOf]
     ·go_wp2_with (at_builtin;go_must (refine wpList_append_own _ rfl _ _ 24 rfl w.heap.size 5 i0 _ 1 1 Tryz.underlying24 hi0 hz0 hz1 hz2 rfl (by omega) _ 0 [] rfl hown ad x.length c1 (bvals x) rfl (by simp[bvals]) hnw (one_bvals x) (by simp only[maxLen];omega) (by omega) hz ?_);intro v' w2 hown2 hg2 hnil)
      go_wp2
      refine ⟨⟨.inr (.inl ⟨rfl,by simpa using hown2⟩),hb.grown hg2 hz (fun j hj=>(hown.lt j hj).1)⟩,?_⟩
      simp[intOf]
    ·rcases (hy.keep (fun p hp=>hb.cell (hS _ hp))).face hn2 with ⟨rfl,rfl,rfl⟩|⟨ad,rfl,hnw⟩
     ·go_wp2_with (at_builtin;refine wpList_append_own_none rfl _ _ 24 rfl w.heap.size 5 i0 1 Tryz.underlying24 hi0 _ x.length (bvals x) rfl hown rfl ?_)
      go_wp2
      refine ⟨⟨_,_,_,.inr (.inr ⟨rfl,by simpa [bvals] using hown⟩),rfl,rfl,rfl⟩,?_⟩
      simp[intOf]
     ·go_wp2_with (at_builtin;go_must (refine wpList_append_own _ rfl _ _ 24 rfl w.heap.size 5 i0 _ 1 1 Tryz.underlying24 hi0 hz0 hz1 hz2 rfl (by omega) _ x.length (bvals x) rfl hown ad y.length c2 (bvals y) rfl (by simp[bvals]) hnw (one_bvals y) (by simp only[maxLen];omega) (by omega) hz ?_);intro v' w2 hown2 hg2 hnil)
      go_wp2
      refine ⟨⟨.inr (.inr ⟨rfl,hown2⟩),hb.grown hg2 hz (fun j hj=>(hown.lt j hj).1)⟩,?_⟩
      simp[intOf]
    ·have hown':wr.ownsRow w.heap.size 5 1 u6 (x++y).length (bvals (x++y)):=by simpa [bvals] using hown
     obtain ⟨A,c,rfl,hA,hB⟩:=bytes_of_row hown'
     go_wp2
     go_ret
     exact ⟨A,c,rfl,hA,hB,hb⟩
def Vals (w:World) (S:Nat→Prop) (l:List V) (xs:List Value):Prop:=xs.length=l.length∧∀(i:Nat) (x:V),l[i]?=some x→∃u,xs[i]?=some u∧RdS w S x u
theorem Vals.one {w:World} {S:Nat→Prop} {l:List V} {xs:List Value} (h:Vals w S l xs):∀u∈xs,u.oneCell'=true:=by
 intro u hu
 obtain ⟨i,hi,rfl⟩:=List.getElem_of_mem hu
 have hi2:i<l.length:=by rw[←h.1];exact hi
 obtain ⟨u',hu',hr⟩:=h.2 i l[i] (List.getElem?_eq_getElem hi2)
 rw[List.getElem?_eq_getElem hi]at hu'
 injection hu' with e
 rw[e];exact hr.one
theorem Vals.keep {w w':World} {S:Nat→Prop} {l:List V} {xs:List Value} (h:Vals w S l xs) (hk:∀p:Addr,S p.block→w'.cell? p=w.cell? p):Vals w' S l xs:=
 ⟨h.1,fun i x hi=>by obtain ⟨u,hu,hr⟩:=h.2 i x hi;exact ⟨u,hu,RdS.keep hk _ _ hr⟩⟩
theorem Vals.nil (w:World) (S:Nat→Prop):Vals w S [] []:=⟨rfl,fun i x h=>by cases h⟩
theorem Vals.join {w:World} {S:Nat→Prop} {l l2:List V} {xs ys:List Value} (h:Vals w S l xs) (h2:Vals w S l2 ys):Vals w S (l++l2) (xs++ys):=by
 refine ⟨by simp[h.1,h2.1],fun i x hi=>?_⟩
 by_cases hlt:i<l.length
 ·rw[List.getElem?_append_left hlt]at hi
  obtain ⟨u,hu,hr⟩:=h.2 i x hi
  exact ⟨u,by rw[List.getElem?_append_left (by rw[h.1];exact hlt)];exact hu,hr⟩
 ·rw[List.getElem?_append_right (by omega)]at hi
  obtain ⟨u,hu,hr⟩:=h2.2 _ x hi
  exact ⟨u,by rw[List.getElem?_append_right (by rw[h.1];omega),h.1];exact hu,hr⟩
theorem list_face {w:World} {S:Nat→Prop} {A:Option Addr} {c:Nat} {l:List V} (h:l=[]∨∃b off,A=some ⟨b,off,none⟩∧S b∧RdL w S b off l) (hn:A=none→c=0) :
  ∃xs,Vals w S l xs∧((A=none∧l=[]∧c=0)∨∃ad,A=some ad∧∀j u,xs[j]?=some u→w.cell? (ad.add j)=some u):=by
 rcases h with rfl|⟨b,off,rfl,hb,hr⟩
 ·refine ⟨[],Vals.nil w S,?_⟩
  cases A with
  | none=>exact .inl ⟨rfl,rfl,hn rfl⟩
  | some ad=>exact .inr ⟨ad,rfl,fun j u hj=>by simp at hj⟩
 ·have hi:=RdL.iff.1 hr
  refine ⟨(List.range l.length).map fun i=>(w.cell? ⟨b,off+i,none⟩).getD undef,⟨by simp,fun i x hx=>?_⟩,.inr ⟨_,rfl,fun j u hj=>?_⟩⟩
  ·obtain ⟨v,hv,hd⟩:=hi i x hx
   have hlt:=(List.getElem?_eq_some_iff.1 hx).1
   exact ⟨v,by simp[hlt,hv],hd⟩
  ·have hlt:j<l.length:=by have:=(List.getElem?_eq_some_iff.1 hj).1;simpa using this
   obtain ⟨v,hv,hd⟩:=hi j _ (List.getElem?_eq_getElem hlt)
   simp[hlt,hv]at hj
   subst hj
   have e:(⟨b,off,none⟩:Addr).add j=⟨b,off+j,none⟩:=by
    unfold Addr.add
    split
    ·rename_i h0;subst h0;rfl
    ·rfl
   rw[e];exact hv
theorem own_read {w:World} {S:Nat→Prop} {B:Nat} {v:Value} {l:List V} {xs:List Value} (ho:w.ownsRow B 20 1 v l.length xs) (hv:Vals w S l xs) (hS:∀b,S b→b<B) (hB:B≤w.heap.size) (hl:l.length≤1099511627776) :
  RdS w (fun b=>S b∨(B≤b∧b<w.heap.size)) (.list l) (.iface 73 v):=by
 have:OwnV S w B v l:=⟨xs,ho,fun i x hi=>by
  obtain ⟨u,hu,hr⟩:=hv.2 i x hi
  refine ⟨u,hu,RdS.more (fun b hb=>⟨hb,Nat.lt_of_lt_of_le (hS b hb) hB,fun e=>?_⟩) _ _ hr⟩
  have:=(ho.lt b e).1
  have:=hS b hb
  omega⟩
 exact RdS.more (fun b hb=>hb.1.elim .inl (fun h=>.inr ⟨h,hb.2⟩)) _ _ (this.read hl)
def ClonePost (S:Nat→Prop) (l:List V) (w:World) (e:Ending) (w':World):Prop:=∃v xs,e=.returned v∧w'.ownsRow w.heap.size 20 1 v l.length xs∧Vals w' S l xs∧Below w.heap.size w w'
theorem clone_any (l:List V) (A:Option Addr) (c:Nat) (S:Nat→Prop) (w:World) (hS:∀b,S b→b<w.heap.size) (hl:l.length≤1099511627776) (hn:A=none→c=0) (hr:l=[]∨∃b off,A=some ⟨b,off,none⟩∧S b∧RdL w S b off l) :
  Calls Tryz.prog 137 #[.slice A l.length c] w (ClonePost S l w):=by
 obtain ⟨i0,hi0,hz0,hz1,hz2⟩:=info_parts Tryz.infoAny
 obtain ⟨xs,hv,hf⟩:=list_face hr hn
 have hb0:Below w.heap.size w (w.alloc (.cells #[] 20)):=bnew
 have hown:=ownsRow_empty w w.heap.size 20 1 (Nat.le_refl _)
 clear hr
 rcases hf with ⟨rfl,rfl,rfl⟩|⟨ad,rfl,hnw⟩
 ·have k0:=fun (W:World)=>_root_.Go.run_eql_slice_nil (P:=Tryz.prog) W 73 20 none 0 0 Tryz.underlying73
  go_enter Tryz.func137,Tryz.ntmps137
  go_wp2
  go_ret
  exact ⟨_,[],rfl,World.ownsRow_nil _ _ _ _,Vals.nil _ _,Below.refl _ _⟩
 ·have hnw2:∀j u,xs[j]?=some u→(w.alloc (.cells #[] 20)).cell? (ad.add j)=some u:=fun j u hj=>by
   have h1:=hnw j u hj
   have hlt:=World.block_lt_of_cell? w (ad.add j) h1
   exact (hb0.cell hlt).trans h1
  have hone:=hv.one
  have hlen:=hv.1
  have k0:=fun (W:World)=>_root_.Go.run_eql_slice_nil (P:=Tryz.prog) W 73 20 (some ad) l.length c Tryz.underlying73
  go_enter Tryz.func137,Tryz.ntmps137
  go_wp2_with (at_builtin;go_must (refine wpList_append_own _ rfl _ _ 73 rfl w.heap.size 20 i0 _ 1 16 Tryz.underlying73 hi0 hz0 hz1 hz2 rfl (by omega) _ 0 [] rfl hown ad l.length c xs rfl (by omega) hnw2 hone (by simp only[maxLen];omega) (by omega) (by simp) ?_);intro v' w2 hown2 hg2 hnil)
  have hb2:=hb0.grown hg2 hb0.size (fun j hj=>(hown.lt j hj).1)
  go_wp2
  go_ret
  exact ⟨_,xs,rfl,by simpa using hown2,hv.keep (fun p hp=>hb2.cell (hS _ hp)),hb2⟩
theorem joined_text (op:ByteArray) (a:Int) (p:Value) (nm:ByteArray) (y:List Value) (hy:Eleven y) (hp:p.oneCell'=true) (x z:ByteArray) (S:Nat→Prop) (w:World) (hS:∀b,S b→b<w.heap.size) (hx:x.size≤65536) (hz:z.size≤65536) :
  Calls Tryz.prog 103 #[eV op a p nm y,.iface 9 (.string x),.iface 9 (.string z)] w (OutPost S (joinedV a (.text x) (.text z)) w):=by
 have HG:=Hd (fun (W:World) (hW:Below w.heap.size w W)=>good_any op a p nm y hy hp (.text (x++z)) (.iface 9 (.string (x++z))) S W (fun b h=>Nat.lt_of_lt_of_le (hS b h) hW.size) ⟨rfl,by simp[ByteArray.size_append];omega⟩)
 have HF:Hid (joinedV a (.text x) (.text z)=goodV a (.text (x++z))):=Hd rfl
 have HBad:=Hd (fun (W:World)=>bad_any op a p nm y hy hp W)
 obtain ⟨n0,n1,n2,n3,n4,n5,n6,n7,n8,n9,n10,rfl,h1⟩:=hy
 clear h1
 unfold eV at *
 have HB:Hid (Below w.heap.size w (w.alloc (.cells #[.string op,.int .i64 a,p,.string nm,n0,n1,n2,n3,n4,n5,n6,n7,n8,n9,n10] 32))):=Hd bnew
 go_enter Tryz.func103,Tryz.ntmps103
 go_wp2_with fail
 refine (HG.out _ HB.out).mono ?_
 rintro e w9 ⟨hb9,hr9⟩
 have hbb:=HB.out.trans (hb9.mono (by simp))
 cases hg:goodV a (.text (x++z))with
 | val t =>
  rw[hg]at hr9
  obtain ⟨v9,rfl,hv9⟩:=hr9
  go_wp2
  go_ret
  exact ⟨hbb,by rw[HF.out,hg];exact ⟨v9,rfl,RdS.more (fun b h=>h.imp id (fun h=>⟨by have:=h.1;simp at this;omega,h.2⟩)) _ _ hv9⟩⟩
 | gone b why =>
  rw[hg]at hr9
  obtain rfl:=hr9
  exact ⟨rfl,hbb,by rw[HF.out,hg]⟩
theorem joined_bytes (op:ByteArray) (a:Int) (p:Value) (nm:ByteArray) (y:List Value) (hy:Eleven y) (hp:p.oneCell'=true) (x z:List UInt8) (A1 A2:Option Addr) (c1 c2:Nat) (S:Nat→Prop) (w:World) (hS:∀b,S b→b<w.heap.size) (hx:x.length≤65536) (hz:z.length≤65536) (h1:A1=none→c1=0) (h2:A2=none→c2=0) (r1:ByteRow w S A1 x) (r2:ByteRow w S A2 z) :
  Calls Tryz.prog 103 #[eV op a p nm y,.iface 24 (.slice A1 x.length c1),.iface 24 (.slice A2 z.length c2)] w (OutPost S (joinedV a (.bytes x) (.bytes z)) w):=by
 have HG:=Hd (fun (W:World) (A:Option Addr) (c:Nat) (hn:A=none→c=0) (hr:ByteRow W (New w W) A (x++z))=>good_any op a p nm y hy hp (.bytes (x++z)) (.iface 24 (.slice A (x.length+z.length) c)) (New w W) W (fun b h=>h.2) ⟨A,c,by rw[List.length_append],by simp;omega,hn,hr⟩)
 have HC:=Hd (fun (W:World) (hW:Below w.heap.size w W) (bl:Nat) (hbl:bl<W.heap.size) (q0:W.cell? ⟨bl,0,none⟩=some (.slice A1 x.length c1)) (q1:W.cell? ⟨bl,1,none⟩=some (.slice A2 z.length c2)) =>
  concat_any x z A1 A2 c1 c2 S W bl (r1.keep (fun p hp=>hW.cell (hS _ hp))) (r2.keep (fun p hp=>hW.cell (hS _ hp))) h1 h2 (fun b h=>Nat.lt_of_lt_of_le (hS b h) hW.size) hx hz hbl q0 q1)
 have HF:Hid (joinedV a (.bytes x) (.bytes z)=goodV a (.bytes (x++z))):=Hd rfl
 clear r1 r2
 have HBad:=Hd (fun (W:World)=>bad_any op a p nm y hy hp W)
 obtain ⟨n0,n1,n2,n3,n4,n5,n6,n7,n8,n9,n10,rfl,hone⟩:=hy
 clear hone
 unfold eV at *
 have HB:Hid (Below w.heap.size w (w.alloc (.cells #[.string op,.int .i64 a,p,.string nm,n0,n1,n2,n3,n4,n5,n6,n7,n8,n9,n10] 32))):=Hd bnew
 go_enter Tryz.func103,Tryz.ntmps103
 go_wp2
 refine wp_region_heldS (fun W=>Below (w.heap.size+1) (w.alloc (.cells #[.string op,.int .i64 a,p,.string nm,n0,n1,n2,n3,n4,n5,n6,n7,n8,n9,n10] 32)) W) 3 (by kernel_rfl) (by kernel_rfl) (fun _ _ _ _ _ h=>h) ?_ ?_
 ·((exact below_drewN (Below.refl _ _) 1))
 simp only[List.take_succ_cons,List.take_zero]
 repeat (refine HdS.step (fun K hK=>?_);go_simp;first|(refine hK _ ?_;clear hK K)|(apply Exists.intro;refine ⟨fun W hW=>?_,hK _ ?_⟩;(first|(intros;rfl)|((obtain ⟨hc,hf⟩:=bcellB hW;go_simp;rfl)));clear hK K))
 refine HdS.nil ?_
 simp only[List.drop_succ_cons,List.drop_zero]
 refine SeqS.step (fun K hK=>?_)
 go_simp
 refine hK _ _ (((Below.refl _ _).alloc (by simp) _).drew) ?_
 clear hK K
 refine SeqS.step (fun K hK=>?_)
 go_simp
 go_at_call 136
 refine (HC.out _ ((HB.out.alloc (by simp) _).drew) _ (by simp) (by simp[go_sem]) (by simp[go_sem])).mono ?_
 rintro e w1 ⟨A,c,rfl,hn,hrow,hb1⟩
 have hb2:=(((Below.refl (w.heap.size+1) (w.alloc (.cells #[.string op,.int .i64 a,p,.string nm,n0,n1,n2,n3,n4,n5,n6,n7,n8,n9,n10] 32))).alloc (by simp) (.cells #[.slice A1 x.length c1,.slice A2 z.length c2] 24)).drew).trans (hb1.mono (by simp))
 have hb3:=HB.out.trans (hb2.mono (by omega))
 refine hK _ _ hb2 ?_
 clear hK K
 refine SeqS.step (fun K hK=>?_)
 go_simp
 refine hK _ _ hb2 ?_
 clear hK K
 refine SeqS.step (fun K hK=>?_)
 go_simp
 go_at_call 65
 refine (HG.out w1 A c hn (hrow.more (fun b h=>⟨by have:=h.1;simp at this;omega,h.2⟩))).mono ?_
 rintro e w9 ⟨hb9,hr9⟩
 have hbb:=below_then hb3 (Nat.le_refl _) hb9
 have hs9:=hb9.size
 cases hg:goodV a (.bytes (x++z))with
 | val t =>
  rw[hg]at hr9
  obtain ⟨v9,rfl,hv9⟩:=hr9
  refine hK _ _ (hb2.trans (hb9.mono (by have:=hb2.size;simp at this;omega))) ?_
  clear hK K
  refine SeqS.step (fun K hK=>?_)
  go_simp
  refine hK _ _ (hb2.trans (hb9.mono (by have:=hb2.size;simp at this;omega))) ?_
  clear hK K
  refine SeqS.nil ?_
  go_wp2
  go_ret
  exact ⟨hbb,by rw[HF.out,hg];exact ⟨v9,rfl,RdS.more (fun b h=>.inr (h.elim (fun h=>⟨h.1,Nat.lt_of_lt_of_le h.2 hs9⟩) (fun h=>⟨Nat.le_trans hb3.size h.1,h.2⟩))) _ _ hv9⟩⟩
 | gone b why =>
  rw[hg]at hr9
  obtain rfl:=hr9
  exact ⟨rfl,hbb,by rw[HF.out,hg]⟩
end Go.Proofs.YtbemeapjeipjlaaGreatDoor
