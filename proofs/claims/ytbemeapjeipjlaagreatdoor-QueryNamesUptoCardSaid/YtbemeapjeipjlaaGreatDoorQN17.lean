/- Walks: query.joined of any two, query.reckon. -/
import Derived.Test.YtbemeapjeipjlaaGreatDoorQN15
set_option linter.unusedVariables false
set_option linter.unusedSimpArgs false
namespace Go.Proofs.YtbemeapjeipjlaaGreatDoor
open Go Go.RowKit
set_option maxRecDepth 100000
set_option maxHeartbeats 8000000
attribute [local go_sem] ta_no_bool ta_yes_bool ta_nil_bool ta_no_int64 ta_yes_int64 ta_nil_int64 ta_no_flt ta_yes_flt ta_nil_flt ta_no_str ta_yes_str ta_nil_str ta_no_byt ta_yes_byt ta_nil_byt ta_no_ref ta_yes_ref ta_nil_ref ta_no_lst ta_yes_lst ta_nil_lst ta_no_dct ta_yes_dct ta_nil_dct ta_no_rec ta_yes_rec ta_nil_rec
def topSmall:V→Prop
 | .text s=>s.size≤65536
 | .bytes l=>l.length≤65536
 | .list l=>l.length≤16384
 | _=>True
theorem joinedx_text (op:ByteArray) (a:Int) (p:Value) (nm:ByteArray) (y:List Value) (hy:Eleven y) (hp:p.oneCell'=true) (x:ByteArray) (z:V) (vz:Value) (S:Nat→Prop) (w:World) (hz:RdS w S z vz) (hk:kindV z≠5) :
  Calls Tryz.prog 103 #[eV op a p nm y,.iface 9 (.string x),vz] w (OutPost S (joinedV a (.text x) z) w):=by
 have HF:Hid (joinedV a (.text x) z=.gone a 172):=Hd (by cases z <;> first|rfl|exact absurd rfl hk)
 have HBad:=Hd (fun (W:World)=>bad_any op a p nm y hy hp W)
 obtain ⟨n0,n1,n2,n3,n4,n5,n6,n7,n8,n9,n10,rfl,h1⟩:=hy
 clear h1
 unfold eV at *
 have HB:Hid (Below w.heap.size w (w.alloc (.cells #[.string op,.int .i64 a,p,.string nm,n0,n1,n2,n3,n4,n5,n6,n7,n8,n9,n10] 32))):=Hd bnew
 have k0:=not_text hz 20 (w.alloc (.cells #[.string op,.int .i64 a,p,.string nm,n0,n1,n2,n3,n4,n5,n6,n7,n8,n9,n10] 32)) hk
 clear hz hk
 go_enter Tryz.func103,Tryz.ntmps103
 go_wp2_with fail
 refine (HBad.out _).mono ?_
 rintro e w9 ⟨rfl,hb9⟩
 exact ⟨rfl,HB.out.trans (hb9.mono (by simp)),by rw[HF.out]⟩
theorem joinedx_bytes (op:ByteArray) (a:Int) (p:Value) (nm:ByteArray) (y:List Value) (hy:Eleven y) (hp:p.oneCell'=true) (x:List UInt8) (A1:Option Addr) (c1:Nat) (z:V) (vz:Value) (S:Nat→Prop) (w:World) (hz:RdS w S z vz) (hk:kindV z≠6) :
  Calls Tryz.prog 103 #[eV op a p nm y,.iface 24 (.slice A1 x.length c1),vz] w (OutPost S (joinedV a (.bytes x) z) w):=by
 have HF:Hid (joinedV a (.bytes x) z=.gone a 172):=Hd (by cases z <;> first|rfl|exact absurd rfl hk)
 have HBad:=Hd (fun (W:World)=>bad_any op a p nm y hy hp W)
 obtain ⟨n0,n1,n2,n3,n4,n5,n6,n7,n8,n9,n10,rfl,h1⟩:=hy
 clear h1
 unfold eV at *
 have HB:Hid (Below w.heap.size w (w.alloc (.cells #[.string op,.int .i64 a,p,.string nm,n0,n1,n2,n3,n4,n5,n6,n7,n8,n9,n10] 32))):=Hd bnew
 have k0:=not_bytes hz 20 (w.alloc (.cells #[.string op,.int .i64 a,p,.string nm,n0,n1,n2,n3,n4,n5,n6,n7,n8,n9,n10] 32)) hk
 clear hz hk
 go_enter Tryz.func103,Tryz.ntmps103
 go_wp2_with fail
 refine (HBad.out _).mono ?_
 rintro e w9 ⟨rfl,hb9⟩
 exact ⟨rfl,HB.out.trans (hb9.mono (by simp)),by rw[HF.out]⟩
theorem joinedx_list (op:ByteArray) (a:Int) (p:Value) (nm:ByteArray) (y:List Value) (hy:Eleven y) (hp:p.oneCell'=true) (x:List V) (A1:Option Addr) (c1:Nat) (z:V) (vz:Value) (S:Nat→Prop) (w:World) (hz:RdS w S z vz) (hk:kindV z≠8) :
  Calls Tryz.prog 103 #[eV op a p nm y,.iface 73 (.slice A1 x.length c1),vz] w (OutPost S (joinedV a (.list x) z) w):=by
 have HF:Hid (joinedV a (.list x) z=.gone a 172):=Hd (by cases z <;> first|rfl|exact absurd rfl hk)
 have HBad:=Hd (fun (W:World)=>bad_any op a p nm y hy hp W)
 obtain ⟨n0,n1,n2,n3,n4,n5,n6,n7,n8,n9,n10,rfl,h1⟩:=hy
 clear h1
 unfold eV at *
 have HB:Hid (Below w.heap.size w (w.alloc (.cells #[.string op,.int .i64 a,p,.string nm,n0,n1,n2,n3,n4,n5,n6,n7,n8,n9,n10] 32))):=Hd bnew
 have k0:=not_list hz 20 (w.alloc (.cells #[.string op,.int .i64 a,p,.string nm,n0,n1,n2,n3,n4,n5,n6,n7,n8,n9,n10] 32)) hk
 clear hz hk
 go_enter Tryz.func103,Tryz.ntmps103
 go_wp2_with fail
 refine (HBad.out _).mono ?_
 rintro e w9 ⟨rfl,hb9⟩
 exact ⟨rfl,HB.out.trans (hb9.mono (by simp)),by rw[HF.out]⟩
theorem joinedx_other (op:ByteArray) (a:Int) (p:Value) (nm:ByteArray) (y:List Value) (hy:Eleven y) (hp:p.oneCell'=true) (x z:V) (vx vz:Value) (S:Nat→Prop) (w:World) (hx:RdS w S x vx) (h5:kindV x≠5) (h6:kindV x≠6) (h8:kindV x≠8) :
  Calls Tryz.prog 103 #[eV op a p nm y,vx,vz] w (OutPost S (joinedV a x z) w):=by
 have HF:Hid (joinedV a x z=.gone a 172):=Hd (by cases x <;> first|rfl|exact absurd rfl h5|exact absurd rfl h6|exact absurd rfl h8)
 have HBad:=Hd (fun (W:World)=>bad_any op a p nm y hy hp W)
 obtain ⟨n0,n1,n2,n3,n4,n5,n6,n7,n8,n9,n10,rfl,h1⟩:=hy
 clear h1
 unfold eV at *
 have HB:Hid (Below w.heap.size w (w.alloc (.cells #[.string op,.int .i64 a,p,.string nm,n0,n1,n2,n3,n4,n5,n6,n7,n8,n9,n10] 32))):=Hd bnew
 have k5:=not_text hx 20 (w.alloc (.cells #[.string op,.int .i64 a,p,.string nm,n0,n1,n2,n3,n4,n5,n6,n7,n8,n9,n10] 32)) h5
 have k6:=not_bytes hx 20 (w.alloc (.cells #[.string op,.int .i64 a,p,.string nm,n0,n1,n2,n3,n4,n5,n6,n7,n8,n9,n10] 32)) h6
 have k8:=not_list hx 20 (w.alloc (.cells #[.string op,.int .i64 a,p,.string nm,n0,n1,n2,n3,n4,n5,n6,n7,n8,n9,n10] 32)) h8
 clear hx h5 h6 h8
 go_enter Tryz.func103,Tryz.ntmps103
 go_wp2_with fail
 refine (HBad.out _).mono ?_
 rintro e w9 ⟨rfl,hb9⟩
 exact ⟨rfl,HB.out.trans (hb9.mono (by simp)),by rw[HF.out]⟩
theorem joined_any (op:ByteArray) (a:Int) (p:Value) (nm:ByteArray) (y:List Value) (hy:Eleven y) (hp:p.oneCell'=true) (x z:V) (vx vz:Value) (S:Nat→Prop) (w:World) (hS:∀b,S b→b<w.heap.size) (hx:RdS w S x vx) (hz:RdS w S z vz) (tx:topSmall x) (tz:topSmall z) :
  Calls Tryz.prog 103 #[eV op a p nm y,vx,vz] w (OutPost S (joinedV a x z) w):=by
 by_cases h5:kindV x=5
 ·obtain ⟨s,rfl⟩:=kind_is_text h5
  obtain ⟨rfl,_⟩:=hx
  by_cases g5:kindV z=5
  ·obtain ⟨t,rfl⟩:=kind_is_text g5
   obtain ⟨rfl,_⟩:=hz
   exact joined_text op a p nm y hy hp s t S w hS tx tz
  ·exact joinedx_text op a p nm y hy hp s z vz S w hz g5
 by_cases h6:kindV x=6
 ·obtain ⟨s,rfl⟩:=kind_is_bytes h6
  obtain ⟨A1,c1,rfl,_,e1,r1⟩:=hx
  by_cases g6:kindV z=6
  ·obtain ⟨t,rfl⟩:=kind_is_bytes g6
   obtain ⟨A2,c2,rfl,_,e2,r2⟩:=hz
   exact joined_bytes op a p nm y hy hp s t A1 A2 c1 c2 S w hS tx tz e1 e2 r1 r2
  ·exact joinedx_bytes op a p nm y hy hp s A1 c1 z vz S w hz g6
 by_cases h8:kindV x=8
 ·obtain ⟨s,rfl⟩:=kind_is_list h8
  obtain ⟨A1,c1,rfl,_,e1,r1⟩:=hx
  by_cases g8:kindV z=8
  ·obtain ⟨t,rfl⟩:=kind_is_list g8
   obtain ⟨A2,c2,rfl,_,e2,r2⟩:=hz
   exact joined_list op a p nm y hy hp s t A1 A2 c1 c2 S w hS tx tz e1.1 e2.1 r1 r2
  ·exact joinedx_list op a p nm y hy hp s A1 c1 z vz S w hz g8
 exact joinedx_other op a p nm y hy hp x z vx vz S w hx h5 h6 h8
theorem ta_int_any {w:World} {S:Nat→Prop} {x:V} {v:Value} (h:RdS w S x v) (X:TypeId):∃r,∀W:World,(Instr.typeAssert v X 2 true).run Tryz.prog W=.ok (.tuple #[.int .i64 r,.bool (decide (kindV x=3))]) W:=by
 by_cases h3:kindV x=3
 ·obtain ⟨n,rfl⟩:=kind_is_int h3
  obtain ⟨rfl,_⟩:=h
  exact ⟨n,fun W=>ta_yes_int64 W X _⟩
 ·exact ⟨0,fun W=>by rw[decide_eq_false h3];exact not_int h X W h3⟩
theorem reckonV_not {op:ByteArray} {a:Int} {x z:V} (h:¬(kindV x=3∧kindV z=3)):reckonV op a x z=match floatOf x,floatOf z with
  | some f,some g=>(match arith? op with | some o=>.val (.flt (arithF o f g)) | none=>.gone a 172)
  | _,_=>if op=oAdd then joinedV a x z else .gone a 172:=by
 cases x <;> cases z <;> first|rfl|exact absurd ⟨rfl,rfl⟩ h
theorem reckon_add_ints (a:Int) (p:Value) (nm:ByteArray) (y:List Value) (hy:Eleven y) (hp:p.oneCell'=true) (m n:Int) (S:Nat→Prop) (w:World) (hS:∀b,S b→b<w.heap.size) (hm:-9223372036854775808≤m∧m≤9223372036854775807) (hn:-9223372036854775808≤n∧n≤9223372036854775807) :
  Calls Tryz.prog 69 #[eV oAdd a p nm y,.iface 2 (.int .i64 m),.iface 2 (.int .i64 n)] w (OutPost S (reckonV oAdd a (.int m) (.int n)) w):=by
 have HW:=Hd (fun (W:World)=>whole_add a p nm y hy hp m n (fun _=>False) W hm hn)
 have HF:Hid (reckonV oAdd a (.int m) (.int n)=intOut a (wholeO oAdd m n)):=Hd rfl
 have HBad:=Hd (fun (W:World)=>bad_any oAdd a p nm y hy hp W)
 obtain ⟨n0,n1,n2,n3,n4,n5,n6,n7,n8,n9,n10,rfl,h1⟩:=hy
 clear h1
 unfold eV at *
 have HB:Hid (Below w.heap.size w (w.alloc (.cells #[.string oAdd,.int .i64 a,p,.string nm,n0,n1,n2,n3,n4,n5,n6,n7,n8,n9,n10] 32))):=Hd bnew
 clear hS
 go_enter Tryz.func69,Tryz.ntmps69
 go_wp2_with fail
 refine (HW.out _).mono ?_
 rintro e w9 ⟨hb9,hr9⟩
 have hbb:=HB.out.trans (hb9.mono (by simp))
 cases hg:wholeO oAdd m n with
 | some k =>
  rw[hg]at hr9
  obtain ⟨v9,rfl,hv9⟩:=hr9
  go_wp2
  go_ret
  exact ⟨hbb,by rw[HF.out,hg];exact ⟨v9,rfl,hv9⟩⟩
 | none =>
  rw[hg]at hr9
  obtain rfl:=hr9
  exact ⟨rfl,hbb,by rw[HF.out,hg];rfl⟩
theorem reckon_add (a:Int) (p:Value) (nm:ByteArray) (y:List Value) (hy:Eleven y) (hp:p.oneCell'=true) (x z:V) (vx vz:Value) (S:Nat→Prop) (w:World) (hS:∀b,S b→b<w.heap.size) (hx:RdS w S x vx) (hz:RdS w S z vz) (tx:topSmall x) (tz:topSmall z) (hk:¬(kindV x=3∧kindV z=3)) :
  Calls Tryz.prog 69 #[eV oAdd a p nm y,vx,vz] w (OutPost S (reckonV oAdd a x z) w):=by
 have hb:(decide (kindV x=3)&&decide (kindV z=3))=false:=by simpa using hk
 have HX:=Hd (fun (W:World) (hW:Below w.heap.size w W)=>float_any x vx S W (hx.to hS hW))
 have HZ:=Hd (fun (W:World) (hW:Below w.heap.size w W)=>float_any z vz S W (hz.to hS hW))
 unfold FloatPost at HX HZ
 obtain ⟨r1,kx⟩:=ta_int_any hx 20
 obtain ⟨r2,kz⟩:=ta_int_any hz 20
 have HU:=Hd (reckonV_not (op:=oAdd) (a:=a) hk)
 have HJ:=Hd (fun (W:World) (hW:Below w.heap.size w W)=>joined_any oAdd a p nm y hy hp x z vx vz S W (fun b h=>Nat.lt_of_lt_of_le (hS b h) hW.size) (hx.to hS hW) (hz.to hS hW) tx tz)
 clear tx tz
 clear hx hz hS
 generalize decide (kindV x=3)=b1 at *
 have hbb:(b1&&decide (kindV z=3))=false:=hb
 generalize decide (kindV z=3)=b2 at *
 clear hb
 have HBad:=Hd (fun (W:World)=>bad_any oAdd a p nm y hy hp W)
 obtain ⟨n0,n1,n2,n3,n4,n5,n6,n7,n8,n9,n10,rfl,h1⟩:=hy
 clear h1
 unfold eV at *
 have HB:Hid (Below w.heap.size w (w.alloc (.cells #[.string oAdd,.int .i64 a,p,.string nm,n0,n1,n2,n3,n4,n5,n6,n7,n8,n9,n10] 32))):=Hd bnew
 have ho:b1=false∨(b1=true∧b2=false):=by cases b1 <;> simp_all
 clear hbb
 cases fx:floatOf x with
 | none =>
  have HF:Hid (reckonV oAdd a x z=joinedV a x z):=Hd (by rw[HU.out,fx];rfl)
  rw[fx]at HX
  clear HU
  rcases ho with rfl|⟨rfl,rfl⟩
  ·go_enter Tryz.func69,Tryz.ntmps69
   go_wp2_with fail
   refine (HX.out _ HB.out).mono ?_
   rintro e w1 ⟨rfl,rfl⟩
   go_wp2_with fail
   refine (HZ.out _ HB.out).mono ?_
   rintro e w1 ⟨rfl,rfl⟩
   go_wp2_with fail
   refine (HJ.out _ HB.out).mono ?_
   rintro e w9 ⟨hb9,hr9⟩
   have hbb:=HB.out.trans (hb9.mono (by simp))
   cases hg:joinedV a x z with
   | val t =>
    rw[hg]at hr9
    obtain ⟨v9,rfl,hv9⟩:=hr9
    go_wp2
    go_ret
    exact ⟨hbb,by rw[HF.out,hg];exact ⟨v9,rfl,RdS.more (fun b h=>h.imp id (fun h=>⟨by have:=h.1;simp at this;omega,h.2⟩)) _ _ hv9⟩⟩
   | gone b why =>
    rw[hg]at hr9
    obtain rfl:=hr9
    exact ⟨rfl,hbb,by rw[HF.out,hg]⟩
  ·go_enter Tryz.func69,Tryz.ntmps69
   go_wp2_with fail
   refine (HX.out _ HB.out).mono ?_
   rintro e w1 ⟨rfl,rfl⟩
   go_wp2_with fail
   refine (HZ.out _ HB.out).mono ?_
   rintro e w1 ⟨rfl,rfl⟩
   go_wp2_with fail
   refine (HJ.out _ HB.out).mono ?_
   rintro e w9 ⟨hb9,hr9⟩
   have hbb:=HB.out.trans (hb9.mono (by simp))
   cases hg:joinedV a x z with
   | val t =>
    rw[hg]at hr9
    obtain ⟨v9,rfl,hv9⟩:=hr9
    go_wp2
    go_ret
    exact ⟨hbb,by rw[HF.out,hg];exact ⟨v9,rfl,RdS.more (fun b h=>h.imp id (fun h=>⟨by have:=h.1;simp at this;omega,h.2⟩)) _ _ hv9⟩⟩
   | gone b why =>
    rw[hg]at hr9
    obtain rfl:=hr9
    exact ⟨rfl,hbb,by rw[HF.out,hg]⟩
 | some f =>
  cases fz:floatOf z with
  | none =>
   have HF:Hid (reckonV oAdd a x z=joinedV a x z):=Hd (by rw[HU.out,fx,fz];rfl)
   rw[fx]at HX
   rw[fz]at HZ
   clear HU
   rcases ho with rfl|⟨rfl,rfl⟩
   ·go_enter Tryz.func69,Tryz.ntmps69
    go_wp2_with fail
    refine (HX.out _ HB.out).mono ?_
    rintro e w1 ⟨rfl,rfl⟩
    go_wp2_with fail
    refine (HZ.out _ HB.out).mono ?_
    rintro e w1 ⟨rfl,rfl⟩
    go_wp2_with fail
    refine (HJ.out _ HB.out).mono ?_
    rintro e w9 ⟨hb9,hr9⟩
    have hbb:=HB.out.trans (hb9.mono (by simp))
    cases hg:joinedV a x z with
    | val t =>
     rw[hg]at hr9
     obtain ⟨v9,rfl,hv9⟩:=hr9
     go_wp2
     go_ret
     exact ⟨hbb,by rw[HF.out,hg];exact ⟨v9,rfl,RdS.more (fun b h=>h.imp id (fun h=>⟨by have:=h.1;simp at this;omega,h.2⟩)) _ _ hv9⟩⟩
    | gone b why =>
     rw[hg]at hr9
     obtain rfl:=hr9
     exact ⟨rfl,hbb,by rw[HF.out,hg]⟩
   ·go_enter Tryz.func69,Tryz.ntmps69
    go_wp2_with fail
    refine (HX.out _ HB.out).mono ?_
    rintro e w1 ⟨rfl,rfl⟩
    go_wp2_with fail
    refine (HZ.out _ HB.out).mono ?_
    rintro e w1 ⟨rfl,rfl⟩
    go_wp2_with fail
    refine (HJ.out _ HB.out).mono ?_
    rintro e w9 ⟨hb9,hr9⟩
    have hbb:=HB.out.trans (hb9.mono (by simp))
    cases hg:joinedV a x z with
    | val t =>
     rw[hg]at hr9
     obtain ⟨v9,rfl,hv9⟩:=hr9
     go_wp2
     go_ret
     exact ⟨hbb,by rw[HF.out,hg];exact ⟨v9,rfl,RdS.more (fun b h=>h.imp id (fun h=>⟨by have:=h.1;simp at this;omega,h.2⟩)) _ _ hv9⟩⟩
    | gone b why =>
     rw[hg]at hr9
     obtain rfl:=hr9
     exact ⟨rfl,hbb,by rw[HF.out,hg]⟩
  | some g =>
   rw[fx]at HX
   rw[fz]at HZ
   cases fb:floatBits .add .f64 f g with
   | some r =>
    have HF:Hid (reckonV oAdd a x z=.val (.flt (oneV r))):=Hd (by rw[HU.out,fx,fz];change Out.val (.flt (arithF .add f g))=_;unfold arithF;rw[fb])
    have k2:=fun (W:World)=>run_float_arith (P:=Tryz.prog) W .add 23 .f64 f g r fb
    have HO:=Hd (fun (W:World)=>one_any r W)
    clear HU
    rcases ho with rfl|⟨rfl,rfl⟩
    ·go_enter Tryz.func69,Tryz.ntmps69
     go_wp2_with fail
     refine (HX.out _ HB.out).mono ?_
     rintro e w1 ⟨rfl,rfl⟩
     go_wp2_with fail
     refine (HZ.out _ HB.out).mono ?_
     rintro e w1 ⟨rfl,rfl⟩
     go_wp2_with fail
     refine (HO.out _).mono ?_
     rintro e w9 ⟨rfl,rfl⟩
     go_wp2
     go_ret
     exact ⟨HB.out,by rw[HF.out];exact ⟨_,rfl,rfl⟩⟩
    ·go_enter Tryz.func69,Tryz.ntmps69
     go_wp2_with fail
     refine (HX.out _ HB.out).mono ?_
     rintro e w1 ⟨rfl,rfl⟩
     go_wp2_with fail
     refine (HZ.out _ HB.out).mono ?_
     rintro e w1 ⟨rfl,rfl⟩
     go_wp2_with fail
     refine (HO.out _).mono ?_
     rintro e w9 ⟨rfl,rfl⟩
     go_wp2
     go_ret
     exact ⟨HB.out,by rw[HF.out];exact ⟨_,rfl,rfl⟩⟩
   | none =>
    have HF:Hid (reckonV oAdd a x z=.val (.flt 9221120237041090561)):=Hd (by rw[HU.out,fx,fz];change Out.val (.flt (arithF .add f g))=_;unfold arithF;rw[fb])
    obtain ⟨t,k2,ht⟩:=run_float_nan (P:=Tryz.prog) .add (by simp) 23 f g (w.alloc (.cells #[.string oAdd,.int .i64 a,p,.string nm,n0,n1,n2,n3,n4,n5,n6,n7,n8,n9,n10] 32)) fb
    have HO:Hid (∀W:World,Calls Tryz.prog 93 #[.float .f64 t] W (fun e w'=>e=.returned (.float .f64 9221120237041090561)∧W=w')):=Hd (fun W=>by have:=one_any t W;unfold oneV at this;rw[ht]at this;exact this)
    have HB2:=Hd HB.out.drew
    clear HU ht
    rcases ho with rfl|⟨rfl,rfl⟩
    ·go_enter Tryz.func69,Tryz.ntmps69
     go_wp2_with fail
     refine (HX.out _ HB.out).mono ?_
     rintro e w1 ⟨rfl,rfl⟩
     go_wp2_with fail
     refine (HZ.out _ HB.out).mono ?_
     rintro e w1 ⟨rfl,rfl⟩
     go_wp2_with fail
     refine (HO.out _).mono ?_
     rintro e w9 ⟨rfl,rfl⟩
     go_wp2
     go_ret
     exact ⟨HB2.out,by rw[HF.out];exact ⟨_,rfl,rfl⟩⟩
    ·go_enter Tryz.func69,Tryz.ntmps69
     go_wp2_with fail
     refine (HX.out _ HB.out).mono ?_
     rintro e w1 ⟨rfl,rfl⟩
     go_wp2_with fail
     refine (HZ.out _ HB.out).mono ?_
     rintro e w1 ⟨rfl,rfl⟩
     go_wp2_with fail
     refine (HO.out _).mono ?_
     rintro e w9 ⟨rfl,rfl⟩
     go_wp2
     go_ret
     exact ⟨HB2.out,by rw[HF.out];exact ⟨_,rfl,rfl⟩⟩
theorem reckon_sub_ints (a:Int) (p:Value) (nm:ByteArray) (y:List Value) (hy:Eleven y) (hp:p.oneCell'=true) (m n:Int) (S:Nat→Prop) (w:World) (hS:∀b,S b→b<w.heap.size) (hm:-9223372036854775808≤m∧m≤9223372036854775807) (hn:-9223372036854775808≤n∧n≤9223372036854775807) :
  Calls Tryz.prog 69 #[eV oSub a p nm y,.iface 2 (.int .i64 m),.iface 2 (.int .i64 n)] w (OutPost S (reckonV oSub a (.int m) (.int n)) w):=by
 have HW:=Hd (fun (W:World)=>whole_sub a p nm y hy hp m n (fun _=>False) W hm hn)
 have HF:Hid (reckonV oSub a (.int m) (.int n)=intOut a (wholeO oSub m n)):=Hd rfl
 have HBad:=Hd (fun (W:World)=>bad_any oSub a p nm y hy hp W)
 obtain ⟨n0,n1,n2,n3,n4,n5,n6,n7,n8,n9,n10,rfl,h1⟩:=hy
 clear h1
 unfold eV at *
 have HB:Hid (Below w.heap.size w (w.alloc (.cells #[.string oSub,.int .i64 a,p,.string nm,n0,n1,n2,n3,n4,n5,n6,n7,n8,n9,n10] 32))):=Hd bnew
 clear hS
 go_enter Tryz.func69,Tryz.ntmps69
 go_wp2_with fail
 refine (HW.out _).mono ?_
 rintro e w9 ⟨hb9,hr9⟩
 have hbb:=HB.out.trans (hb9.mono (by simp))
 cases hg:wholeO oSub m n with
 | some k =>
  rw[hg]at hr9
  obtain ⟨v9,rfl,hv9⟩:=hr9
  go_wp2
  go_ret
  exact ⟨hbb,by rw[HF.out,hg];exact ⟨v9,rfl,hv9⟩⟩
 | none =>
  rw[hg]at hr9
  obtain rfl:=hr9
  exact ⟨rfl,hbb,by rw[HF.out,hg];rfl⟩
theorem reckon_sub (a:Int) (p:Value) (nm:ByteArray) (y:List Value) (hy:Eleven y) (hp:p.oneCell'=true) (x z:V) (vx vz:Value) (S:Nat→Prop) (w:World) (hS:∀b,S b→b<w.heap.size) (hx:RdS w S x vx) (hz:RdS w S z vz) (hk:¬(kindV x=3∧kindV z=3)) :
  Calls Tryz.prog 69 #[eV oSub a p nm y,vx,vz] w (OutPost S (reckonV oSub a x z) w):=by
 have hb:(decide (kindV x=3)&&decide (kindV z=3))=false:=by simpa using hk
 have HX:=Hd (fun (W:World) (hW:Below w.heap.size w W)=>float_any x vx S W (hx.to hS hW))
 have HZ:=Hd (fun (W:World) (hW:Below w.heap.size w W)=>float_any z vz S W (hz.to hS hW))
 unfold FloatPost at HX HZ
 obtain ⟨r1,kx⟩:=ta_int_any hx 20
 obtain ⟨r2,kz⟩:=ta_int_any hz 20
 have HU:=Hd (reckonV_not (op:=oSub) (a:=a) hk)
 clear hx hz hS
 generalize decide (kindV x=3)=b1 at *
 have hbb:(b1&&decide (kindV z=3))=false:=hb
 generalize decide (kindV z=3)=b2 at *
 clear hb
 have HBad:=Hd (fun (W:World)=>bad_any oSub a p nm y hy hp W)
 obtain ⟨n0,n1,n2,n3,n4,n5,n6,n7,n8,n9,n10,rfl,h1⟩:=hy
 clear h1
 unfold eV at *
 have HB:Hid (Below w.heap.size w (w.alloc (.cells #[.string oSub,.int .i64 a,p,.string nm,n0,n1,n2,n3,n4,n5,n6,n7,n8,n9,n10] 32))):=Hd bnew
 have ho:b1=false∨(b1=true∧b2=false):=by cases b1 <;> simp_all
 clear hbb
 cases fx:floatOf x with
 | none =>
  have HF:Hid (reckonV oSub a x z=.gone a 172):=Hd (by rw[HU.out,fx];rfl)
  rw[fx]at HX
  clear HU
  rcases ho with rfl|⟨rfl,rfl⟩
  ·go_enter Tryz.func69,Tryz.ntmps69
   go_wp2_with fail
   refine (HX.out _ HB.out).mono ?_
   rintro e w1 ⟨rfl,rfl⟩
   go_wp2_with fail
   refine (HZ.out _ HB.out).mono ?_
   rintro e w1 ⟨rfl,rfl⟩
   go_wp2_with fail
   refine (HBad.out _).mono ?_
   rintro e w9 ⟨rfl,hb9⟩
   exact ⟨rfl,HB.out.trans (hb9.mono (by simp)),by rw[HF.out]⟩
  ·go_enter Tryz.func69,Tryz.ntmps69
   go_wp2_with fail
   refine (HX.out _ HB.out).mono ?_
   rintro e w1 ⟨rfl,rfl⟩
   go_wp2_with fail
   refine (HZ.out _ HB.out).mono ?_
   rintro e w1 ⟨rfl,rfl⟩
   go_wp2_with fail
   refine (HBad.out _).mono ?_
   rintro e w9 ⟨rfl,hb9⟩
   exact ⟨rfl,HB.out.trans (hb9.mono (by simp)),by rw[HF.out]⟩
 | some f =>
  cases fz:floatOf z with
  | none =>
   have HF:Hid (reckonV oSub a x z=.gone a 172):=Hd (by rw[HU.out,fx,fz];rfl)
   rw[fx]at HX
   rw[fz]at HZ
   clear HU
   rcases ho with rfl|⟨rfl,rfl⟩
   ·go_enter Tryz.func69,Tryz.ntmps69
    go_wp2_with fail
    refine (HX.out _ HB.out).mono ?_
    rintro e w1 ⟨rfl,rfl⟩
    go_wp2_with fail
    refine (HZ.out _ HB.out).mono ?_
    rintro e w1 ⟨rfl,rfl⟩
    go_wp2_with fail
    refine (HBad.out _).mono ?_
    rintro e w9 ⟨rfl,hb9⟩
    exact ⟨rfl,HB.out.trans (hb9.mono (by simp)),by rw[HF.out]⟩
   ·go_enter Tryz.func69,Tryz.ntmps69
    go_wp2_with fail
    refine (HX.out _ HB.out).mono ?_
    rintro e w1 ⟨rfl,rfl⟩
    go_wp2_with fail
    refine (HZ.out _ HB.out).mono ?_
    rintro e w1 ⟨rfl,rfl⟩
    go_wp2_with fail
    refine (HBad.out _).mono ?_
    rintro e w9 ⟨rfl,hb9⟩
    exact ⟨rfl,HB.out.trans (hb9.mono (by simp)),by rw[HF.out]⟩
  | some g =>
   rw[fx]at HX
   rw[fz]at HZ
   cases fb:floatBits .sub .f64 f g with
   | some r =>
    have HF:Hid (reckonV oSub a x z=.val (.flt (oneV r))):=Hd (by rw[HU.out,fx,fz];change Out.val (.flt (arithF .sub f g))=_;unfold arithF;rw[fb])
    have k2:=fun (W:World)=>run_float_arith (P:=Tryz.prog) W .sub 23 .f64 f g r fb
    have HO:=Hd (fun (W:World)=>one_any r W)
    clear HU
    rcases ho with rfl|⟨rfl,rfl⟩
    ·go_enter Tryz.func69,Tryz.ntmps69
     go_wp2_with fail
     refine (HX.out _ HB.out).mono ?_
     rintro e w1 ⟨rfl,rfl⟩
     go_wp2_with fail
     refine (HZ.out _ HB.out).mono ?_
     rintro e w1 ⟨rfl,rfl⟩
     go_wp2_with fail
     refine (HO.out _).mono ?_
     rintro e w9 ⟨rfl,rfl⟩
     go_wp2
     go_ret
     exact ⟨HB.out,by rw[HF.out];exact ⟨_,rfl,rfl⟩⟩
    ·go_enter Tryz.func69,Tryz.ntmps69
     go_wp2_with fail
     refine (HX.out _ HB.out).mono ?_
     rintro e w1 ⟨rfl,rfl⟩
     go_wp2_with fail
     refine (HZ.out _ HB.out).mono ?_
     rintro e w1 ⟨rfl,rfl⟩
     go_wp2_with fail
     refine (HO.out _).mono ?_
     rintro e w9 ⟨rfl,rfl⟩
     go_wp2
     go_ret
     exact ⟨HB.out,by rw[HF.out];exact ⟨_,rfl,rfl⟩⟩
   | none =>
    have HF:Hid (reckonV oSub a x z=.val (.flt 9221120237041090561)):=Hd (by rw[HU.out,fx,fz];change Out.val (.flt (arithF .sub f g))=_;unfold arithF;rw[fb])
    obtain ⟨t,k2,ht⟩:=run_float_nan (P:=Tryz.prog) .sub (by simp) 23 f g (w.alloc (.cells #[.string oSub,.int .i64 a,p,.string nm,n0,n1,n2,n3,n4,n5,n6,n7,n8,n9,n10] 32)) fb
    have HO:Hid (∀W:World,Calls Tryz.prog 93 #[.float .f64 t] W (fun e w'=>e=.returned (.float .f64 9221120237041090561)∧W=w')):=Hd (fun W=>by have:=one_any t W;unfold oneV at this;rw[ht]at this;exact this)
    have HB2:=Hd HB.out.drew
    clear HU ht
    rcases ho with rfl|⟨rfl,rfl⟩
    ·go_enter Tryz.func69,Tryz.ntmps69
     go_wp2_with fail
     refine (HX.out _ HB.out).mono ?_
     rintro e w1 ⟨rfl,rfl⟩
     go_wp2_with fail
     refine (HZ.out _ HB.out).mono ?_
     rintro e w1 ⟨rfl,rfl⟩
     go_wp2_with fail
     refine (HO.out _).mono ?_
     rintro e w9 ⟨rfl,rfl⟩
     go_wp2
     go_ret
     exact ⟨HB2.out,by rw[HF.out];exact ⟨_,rfl,rfl⟩⟩
    ·go_enter Tryz.func69,Tryz.ntmps69
     go_wp2_with fail
     refine (HX.out _ HB.out).mono ?_
     rintro e w1 ⟨rfl,rfl⟩
     go_wp2_with fail
     refine (HZ.out _ HB.out).mono ?_
     rintro e w1 ⟨rfl,rfl⟩
     go_wp2_with fail
     refine (HO.out _).mono ?_
     rintro e w9 ⟨rfl,rfl⟩
     go_wp2
     go_ret
     exact ⟨HB2.out,by rw[HF.out];exact ⟨_,rfl,rfl⟩⟩
theorem reckon_mul_ints (a:Int) (p:Value) (nm:ByteArray) (y:List Value) (hy:Eleven y) (hp:p.oneCell'=true) (m n:Int) (S:Nat→Prop) (w:World) (hS:∀b,S b→b<w.heap.size) (hm:-9223372036854775808≤m∧m≤9223372036854775807) (hn:-9223372036854775808≤n∧n≤9223372036854775807) :
  Calls Tryz.prog 69 #[eV oMul a p nm y,.iface 2 (.int .i64 m),.iface 2 (.int .i64 n)] w (OutPost S (reckonV oMul a (.int m) (.int n)) w):=by
 have HW:=Hd (fun (W:World)=>whole_mul a p nm y hy hp m n (fun _=>False) W hm hn)
 have HF:Hid (reckonV oMul a (.int m) (.int n)=intOut a (wholeO oMul m n)):=Hd rfl
 have HBad:=Hd (fun (W:World)=>bad_any oMul a p nm y hy hp W)
 obtain ⟨n0,n1,n2,n3,n4,n5,n6,n7,n8,n9,n10,rfl,h1⟩:=hy
 clear h1
 unfold eV at *
 have HB:Hid (Below w.heap.size w (w.alloc (.cells #[.string oMul,.int .i64 a,p,.string nm,n0,n1,n2,n3,n4,n5,n6,n7,n8,n9,n10] 32))):=Hd bnew
 clear hS
 go_enter Tryz.func69,Tryz.ntmps69
 go_wp2_with fail
 refine (HW.out _).mono ?_
 rintro e w9 ⟨hb9,hr9⟩
 have hbb:=HB.out.trans (hb9.mono (by simp))
 cases hg:wholeO oMul m n with
 | some k =>
  rw[hg]at hr9
  obtain ⟨v9,rfl,hv9⟩:=hr9
  go_wp2
  go_ret
  exact ⟨hbb,by rw[HF.out,hg];exact ⟨v9,rfl,hv9⟩⟩
 | none =>
  rw[hg]at hr9
  obtain rfl:=hr9
  exact ⟨rfl,hbb,by rw[HF.out,hg];rfl⟩
theorem reckon_mul (a:Int) (p:Value) (nm:ByteArray) (y:List Value) (hy:Eleven y) (hp:p.oneCell'=true) (x z:V) (vx vz:Value) (S:Nat→Prop) (w:World) (hS:∀b,S b→b<w.heap.size) (hx:RdS w S x vx) (hz:RdS w S z vz) (hk:¬(kindV x=3∧kindV z=3)) :
  Calls Tryz.prog 69 #[eV oMul a p nm y,vx,vz] w (OutPost S (reckonV oMul a x z) w):=by
 have hb:(decide (kindV x=3)&&decide (kindV z=3))=false:=by simpa using hk
 have HX:=Hd (fun (W:World) (hW:Below w.heap.size w W)=>float_any x vx S W (hx.to hS hW))
 have HZ:=Hd (fun (W:World) (hW:Below w.heap.size w W)=>float_any z vz S W (hz.to hS hW))
 unfold FloatPost at HX HZ
 obtain ⟨r1,kx⟩:=ta_int_any hx 20
 obtain ⟨r2,kz⟩:=ta_int_any hz 20
 have HU:=Hd (reckonV_not (op:=oMul) (a:=a) hk)
 clear hx hz hS
 generalize decide (kindV x=3)=b1 at *
 have hbb:(b1&&decide (kindV z=3))=false:=hb
 generalize decide (kindV z=3)=b2 at *
 clear hb
 have HBad:=Hd (fun (W:World)=>bad_any oMul a p nm y hy hp W)
 obtain ⟨n0,n1,n2,n3,n4,n5,n6,n7,n8,n9,n10,rfl,h1⟩:=hy
 clear h1
 unfold eV at *
 have HB:Hid (Below w.heap.size w (w.alloc (.cells #[.string oMul,.int .i64 a,p,.string nm,n0,n1,n2,n3,n4,n5,n6,n7,n8,n9,n10] 32))):=Hd bnew
 have ho:b1=false∨(b1=true∧b2=false):=by cases b1 <;> simp_all
 clear hbb
 cases fx:floatOf x with
 | none =>
  have HF:Hid (reckonV oMul a x z=.gone a 172):=Hd (by rw[HU.out,fx];rfl)
  rw[fx]at HX
  clear HU
  rcases ho with rfl|⟨rfl,rfl⟩
  ·go_enter Tryz.func69,Tryz.ntmps69
   go_wp2_with fail
   refine (HX.out _ HB.out).mono ?_
   rintro e w1 ⟨rfl,rfl⟩
   go_wp2_with fail
   refine (HZ.out _ HB.out).mono ?_
   rintro e w1 ⟨rfl,rfl⟩
   go_wp2_with fail
   refine (HBad.out _).mono ?_
   rintro e w9 ⟨rfl,hb9⟩
   exact ⟨rfl,HB.out.trans (hb9.mono (by simp)),by rw[HF.out]⟩
  ·go_enter Tryz.func69,Tryz.ntmps69
   go_wp2_with fail
   refine (HX.out _ HB.out).mono ?_
   rintro e w1 ⟨rfl,rfl⟩
   go_wp2_with fail
   refine (HZ.out _ HB.out).mono ?_
   rintro e w1 ⟨rfl,rfl⟩
   go_wp2_with fail
   refine (HBad.out _).mono ?_
   rintro e w9 ⟨rfl,hb9⟩
   exact ⟨rfl,HB.out.trans (hb9.mono (by simp)),by rw[HF.out]⟩
 | some f =>
  cases fz:floatOf z with
  | none =>
   have HF:Hid (reckonV oMul a x z=.gone a 172):=Hd (by rw[HU.out,fx,fz];rfl)
   rw[fx]at HX
   rw[fz]at HZ
   clear HU
   rcases ho with rfl|⟨rfl,rfl⟩
   ·go_enter Tryz.func69,Tryz.ntmps69
    go_wp2_with fail
    refine (HX.out _ HB.out).mono ?_
    rintro e w1 ⟨rfl,rfl⟩
    go_wp2_with fail
    refine (HZ.out _ HB.out).mono ?_
    rintro e w1 ⟨rfl,rfl⟩
    go_wp2_with fail
    refine (HBad.out _).mono ?_
    rintro e w9 ⟨rfl,hb9⟩
    exact ⟨rfl,HB.out.trans (hb9.mono (by simp)),by rw[HF.out]⟩
   ·go_enter Tryz.func69,Tryz.ntmps69
    go_wp2_with fail
    refine (HX.out _ HB.out).mono ?_
    rintro e w1 ⟨rfl,rfl⟩
    go_wp2_with fail
    refine (HZ.out _ HB.out).mono ?_
    rintro e w1 ⟨rfl,rfl⟩
    go_wp2_with fail
    refine (HBad.out _).mono ?_
    rintro e w9 ⟨rfl,hb9⟩
    exact ⟨rfl,HB.out.trans (hb9.mono (by simp)),by rw[HF.out]⟩
  | some g =>
   rw[fx]at HX
   rw[fz]at HZ
   cases fb:floatBits .mul .f64 f g with
   | some r =>
    have HF:Hid (reckonV oMul a x z=.val (.flt (oneV r))):=Hd (by rw[HU.out,fx,fz];change Out.val (.flt (arithF .mul f g))=_;unfold arithF;rw[fb])
    have k2:=fun (W:World)=>run_float_arith (P:=Tryz.prog) W .mul 23 .f64 f g r fb
    have HO:=Hd (fun (W:World)=>one_any r W)
    clear HU
    rcases ho with rfl|⟨rfl,rfl⟩
    ·go_enter Tryz.func69,Tryz.ntmps69
     go_wp2_with fail
     refine (HX.out _ HB.out).mono ?_
     rintro e w1 ⟨rfl,rfl⟩
     go_wp2_with fail
     refine (HZ.out _ HB.out).mono ?_
     rintro e w1 ⟨rfl,rfl⟩
     go_wp2_with fail
     refine (HO.out _).mono ?_
     rintro e w9 ⟨rfl,rfl⟩
     go_wp2
     go_ret
     exact ⟨HB.out,by rw[HF.out];exact ⟨_,rfl,rfl⟩⟩
    ·go_enter Tryz.func69,Tryz.ntmps69
     go_wp2_with fail
     refine (HX.out _ HB.out).mono ?_
     rintro e w1 ⟨rfl,rfl⟩
     go_wp2_with fail
     refine (HZ.out _ HB.out).mono ?_
     rintro e w1 ⟨rfl,rfl⟩
     go_wp2_with fail
     refine (HO.out _).mono ?_
     rintro e w9 ⟨rfl,rfl⟩
     go_wp2
     go_ret
     exact ⟨HB.out,by rw[HF.out];exact ⟨_,rfl,rfl⟩⟩
   | none =>
    have HF:Hid (reckonV oMul a x z=.val (.flt 9221120237041090561)):=Hd (by rw[HU.out,fx,fz];change Out.val (.flt (arithF .mul f g))=_;unfold arithF;rw[fb])
    obtain ⟨t,k2,ht⟩:=run_float_nan (P:=Tryz.prog) .mul (by simp) 23 f g (w.alloc (.cells #[.string oMul,.int .i64 a,p,.string nm,n0,n1,n2,n3,n4,n5,n6,n7,n8,n9,n10] 32)) fb
    have HO:Hid (∀W:World,Calls Tryz.prog 93 #[.float .f64 t] W (fun e w'=>e=.returned (.float .f64 9221120237041090561)∧W=w')):=Hd (fun W=>by have:=one_any t W;unfold oneV at this;rw[ht]at this;exact this)
    have HB2:=Hd HB.out.drew
    clear HU ht
    rcases ho with rfl|⟨rfl,rfl⟩
    ·go_enter Tryz.func69,Tryz.ntmps69
     go_wp2_with fail
     refine (HX.out _ HB.out).mono ?_
     rintro e w1 ⟨rfl,rfl⟩
     go_wp2_with fail
     refine (HZ.out _ HB.out).mono ?_
     rintro e w1 ⟨rfl,rfl⟩
     go_wp2_with fail
     refine (HO.out _).mono ?_
     rintro e w9 ⟨rfl,rfl⟩
     go_wp2
     go_ret
     exact ⟨HB2.out,by rw[HF.out];exact ⟨_,rfl,rfl⟩⟩
    ·go_enter Tryz.func69,Tryz.ntmps69
     go_wp2_with fail
     refine (HX.out _ HB.out).mono ?_
     rintro e w1 ⟨rfl,rfl⟩
     go_wp2_with fail
     refine (HZ.out _ HB.out).mono ?_
     rintro e w1 ⟨rfl,rfl⟩
     go_wp2_with fail
     refine (HO.out _).mono ?_
     rintro e w9 ⟨rfl,rfl⟩
     go_wp2
     go_ret
     exact ⟨HB2.out,by rw[HF.out];exact ⟨_,rfl,rfl⟩⟩
theorem reckon_div_ints (a:Int) (p:Value) (nm:ByteArray) (y:List Value) (hy:Eleven y) (hp:p.oneCell'=true) (m n:Int) (S:Nat→Prop) (w:World) (hS:∀b,S b→b<w.heap.size) (hm:-9223372036854775808≤m∧m≤9223372036854775807) (hn:-9223372036854775808≤n∧n≤9223372036854775807) :
  Calls Tryz.prog 69 #[eV oDiv a p nm y,.iface 2 (.int .i64 m),.iface 2 (.int .i64 n)] w (OutPost S (reckonV oDiv a (.int m) (.int n)) w):=by
 have HW:=Hd (fun (W:World)=>whole_div a p nm y hy hp m n (fun _=>False) W hm hn)
 have HF:Hid (reckonV oDiv a (.int m) (.int n)=intOut a (wholeO oDiv m n)):=Hd rfl
 have HBad:=Hd (fun (W:World)=>bad_any oDiv a p nm y hy hp W)
 obtain ⟨n0,n1,n2,n3,n4,n5,n6,n7,n8,n9,n10,rfl,h1⟩:=hy
 clear h1
 unfold eV at *
 have HB:Hid (Below w.heap.size w (w.alloc (.cells #[.string oDiv,.int .i64 a,p,.string nm,n0,n1,n2,n3,n4,n5,n6,n7,n8,n9,n10] 32))):=Hd bnew
 clear hS
 go_enter Tryz.func69,Tryz.ntmps69
 go_wp2_with fail
 refine (HW.out _).mono ?_
 rintro e w9 ⟨hb9,hr9⟩
 have hbb:=HB.out.trans (hb9.mono (by simp))
 cases hg:wholeO oDiv m n with
 | some k =>
  rw[hg]at hr9
  obtain ⟨v9,rfl,hv9⟩:=hr9
  go_wp2
  go_ret
  exact ⟨hbb,by rw[HF.out,hg];exact ⟨v9,rfl,hv9⟩⟩
 | none =>
  rw[hg]at hr9
  obtain rfl:=hr9
  exact ⟨rfl,hbb,by rw[HF.out,hg];rfl⟩
theorem reckon_div (a:Int) (p:Value) (nm:ByteArray) (y:List Value) (hy:Eleven y) (hp:p.oneCell'=true) (x z:V) (vx vz:Value) (S:Nat→Prop) (w:World) (hS:∀b,S b→b<w.heap.size) (hx:RdS w S x vx) (hz:RdS w S z vz) (hk:¬(kindV x=3∧kindV z=3)) :
  Calls Tryz.prog 69 #[eV oDiv a p nm y,vx,vz] w (OutPost S (reckonV oDiv a x z) w):=by
 have hb:(decide (kindV x=3)&&decide (kindV z=3))=false:=by simpa using hk
 have HX:=Hd (fun (W:World) (hW:Below w.heap.size w W)=>float_any x vx S W (hx.to hS hW))
 have HZ:=Hd (fun (W:World) (hW:Below w.heap.size w W)=>float_any z vz S W (hz.to hS hW))
 unfold FloatPost at HX HZ
 obtain ⟨r1,kx⟩:=ta_int_any hx 20
 obtain ⟨r2,kz⟩:=ta_int_any hz 20
 have HU:=Hd (reckonV_not (op:=oDiv) (a:=a) hk)
 clear hx hz hS
 generalize decide (kindV x=3)=b1 at *
 have hbb:(b1&&decide (kindV z=3))=false:=hb
 generalize decide (kindV z=3)=b2 at *
 clear hb
 have HBad:=Hd (fun (W:World)=>bad_any oDiv a p nm y hy hp W)
 obtain ⟨n0,n1,n2,n3,n4,n5,n6,n7,n8,n9,n10,rfl,h1⟩:=hy
 clear h1
 unfold eV at *
 have HB:Hid (Below w.heap.size w (w.alloc (.cells #[.string oDiv,.int .i64 a,p,.string nm,n0,n1,n2,n3,n4,n5,n6,n7,n8,n9,n10] 32))):=Hd bnew
 have ho:b1=false∨(b1=true∧b2=false):=by cases b1 <;> simp_all
 clear hbb
 cases fx:floatOf x with
 | none =>
  have HF:Hid (reckonV oDiv a x z=.gone a 172):=Hd (by rw[HU.out,fx];rfl)
  rw[fx]at HX
  clear HU
  rcases ho with rfl|⟨rfl,rfl⟩
  ·go_enter Tryz.func69,Tryz.ntmps69
   go_wp2_with fail
   refine (HX.out _ HB.out).mono ?_
   rintro e w1 ⟨rfl,rfl⟩
   go_wp2_with fail
   refine (HZ.out _ HB.out).mono ?_
   rintro e w1 ⟨rfl,rfl⟩
   go_wp2_with fail
   refine (HBad.out _).mono ?_
   rintro e w9 ⟨rfl,hb9⟩
   exact ⟨rfl,HB.out.trans (hb9.mono (by simp)),by rw[HF.out]⟩
  ·go_enter Tryz.func69,Tryz.ntmps69
   go_wp2_with fail
   refine (HX.out _ HB.out).mono ?_
   rintro e w1 ⟨rfl,rfl⟩
   go_wp2_with fail
   refine (HZ.out _ HB.out).mono ?_
   rintro e w1 ⟨rfl,rfl⟩
   go_wp2_with fail
   refine (HBad.out _).mono ?_
   rintro e w9 ⟨rfl,hb9⟩
   exact ⟨rfl,HB.out.trans (hb9.mono (by simp)),by rw[HF.out]⟩
 | some f =>
  cases fz:floatOf z with
  | none =>
   have HF:Hid (reckonV oDiv a x z=.gone a 172):=Hd (by rw[HU.out,fx,fz];rfl)
   rw[fx]at HX
   rw[fz]at HZ
   clear HU
   rcases ho with rfl|⟨rfl,rfl⟩
   ·go_enter Tryz.func69,Tryz.ntmps69
    go_wp2_with fail
    refine (HX.out _ HB.out).mono ?_
    rintro e w1 ⟨rfl,rfl⟩
    go_wp2_with fail
    refine (HZ.out _ HB.out).mono ?_
    rintro e w1 ⟨rfl,rfl⟩
    go_wp2_with fail
    refine (HBad.out _).mono ?_
    rintro e w9 ⟨rfl,hb9⟩
    exact ⟨rfl,HB.out.trans (hb9.mono (by simp)),by rw[HF.out]⟩
   ·go_enter Tryz.func69,Tryz.ntmps69
    go_wp2_with fail
    refine (HX.out _ HB.out).mono ?_
    rintro e w1 ⟨rfl,rfl⟩
    go_wp2_with fail
    refine (HZ.out _ HB.out).mono ?_
    rintro e w1 ⟨rfl,rfl⟩
    go_wp2_with fail
    refine (HBad.out _).mono ?_
    rintro e w9 ⟨rfl,hb9⟩
    exact ⟨rfl,HB.out.trans (hb9.mono (by simp)),by rw[HF.out]⟩
  | some g =>
   rw[fx]at HX
   rw[fz]at HZ
   cases fb:floatBits .quo .f64 f g with
   | some r =>
    have HF:Hid (reckonV oDiv a x z=.val (.flt (oneV r))):=Hd (by rw[HU.out,fx,fz];change Out.val (.flt (arithF .quo f g))=_;unfold arithF;rw[fb])
    have k2:=fun (W:World)=>run_float_arith (P:=Tryz.prog) W .quo 23 .f64 f g r fb
    have HO:=Hd (fun (W:World)=>one_any r W)
    clear HU
    rcases ho with rfl|⟨rfl,rfl⟩
    ·go_enter Tryz.func69,Tryz.ntmps69
     go_wp2_with fail
     refine (HX.out _ HB.out).mono ?_
     rintro e w1 ⟨rfl,rfl⟩
     go_wp2_with fail
     refine (HZ.out _ HB.out).mono ?_
     rintro e w1 ⟨rfl,rfl⟩
     go_wp2_with fail
     refine (HO.out _).mono ?_
     rintro e w9 ⟨rfl,rfl⟩
     go_wp2
     go_ret
     exact ⟨HB.out,by rw[HF.out];exact ⟨_,rfl,rfl⟩⟩
    ·go_enter Tryz.func69,Tryz.ntmps69
     go_wp2_with fail
     refine (HX.out _ HB.out).mono ?_
     rintro e w1 ⟨rfl,rfl⟩
     go_wp2_with fail
     refine (HZ.out _ HB.out).mono ?_
     rintro e w1 ⟨rfl,rfl⟩
     go_wp2_with fail
     refine (HO.out _).mono ?_
     rintro e w9 ⟨rfl,rfl⟩
     go_wp2
     go_ret
     exact ⟨HB.out,by rw[HF.out];exact ⟨_,rfl,rfl⟩⟩
   | none =>
    have HF:Hid (reckonV oDiv a x z=.val (.flt 9221120237041090561)):=Hd (by rw[HU.out,fx,fz];change Out.val (.flt (arithF .quo f g))=_;unfold arithF;rw[fb])
    obtain ⟨t,k2,ht⟩:=run_float_nan (P:=Tryz.prog) .quo (by simp) 23 f g (w.alloc (.cells #[.string oDiv,.int .i64 a,p,.string nm,n0,n1,n2,n3,n4,n5,n6,n7,n8,n9,n10] 32)) fb
    have HO:Hid (∀W:World,Calls Tryz.prog 93 #[.float .f64 t] W (fun e w'=>e=.returned (.float .f64 9221120237041090561)∧W=w')):=Hd (fun W=>by have:=one_any t W;unfold oneV at this;rw[ht]at this;exact this)
    have HB2:=Hd HB.out.drew
    clear HU ht
    rcases ho with rfl|⟨rfl,rfl⟩
    ·go_enter Tryz.func69,Tryz.ntmps69
     go_wp2_with fail
     refine (HX.out _ HB.out).mono ?_
     rintro e w1 ⟨rfl,rfl⟩
     go_wp2_with fail
     refine (HZ.out _ HB.out).mono ?_
     rintro e w1 ⟨rfl,rfl⟩
     go_wp2_with fail
     refine (HO.out _).mono ?_
     rintro e w9 ⟨rfl,rfl⟩
     go_wp2
     go_ret
     exact ⟨HB2.out,by rw[HF.out];exact ⟨_,rfl,rfl⟩⟩
    ·go_enter Tryz.func69,Tryz.ntmps69
     go_wp2_with fail
     refine (HX.out _ HB.out).mono ?_
     rintro e w1 ⟨rfl,rfl⟩
     go_wp2_with fail
     refine (HZ.out _ HB.out).mono ?_
     rintro e w1 ⟨rfl,rfl⟩
     go_wp2_with fail
     refine (HO.out _).mono ?_
     rintro e w9 ⟨rfl,rfl⟩
     go_wp2
     go_ret
     exact ⟨HB2.out,by rw[HF.out];exact ⟨_,rfl,rfl⟩⟩
theorem reckon_rem_ints (a:Int) (p:Value) (nm:ByteArray) (y:List Value) (hy:Eleven y) (hp:p.oneCell'=true) (m n:Int) (S:Nat→Prop) (w:World) (hS:∀b,S b→b<w.heap.size) (hm:-9223372036854775808≤m∧m≤9223372036854775807) (hn:-9223372036854775808≤n∧n≤9223372036854775807) :
  Calls Tryz.prog 69 #[eV oRem a p nm y,.iface 2 (.int .i64 m),.iface 2 (.int .i64 n)] w (OutPost S (reckonV oRem a (.int m) (.int n)) w):=by
 have HW:=Hd (fun (W:World)=>whole_rem a p nm y hy hp m n (fun _=>False) W hm hn)
 have HF:Hid (reckonV oRem a (.int m) (.int n)=intOut a (wholeO oRem m n)):=Hd rfl
 have HBad:=Hd (fun (W:World)=>bad_any oRem a p nm y hy hp W)
 obtain ⟨n0,n1,n2,n3,n4,n5,n6,n7,n8,n9,n10,rfl,h1⟩:=hy
 clear h1
 unfold eV at *
 have HB:Hid (Below w.heap.size w (w.alloc (.cells #[.string oRem,.int .i64 a,p,.string nm,n0,n1,n2,n3,n4,n5,n6,n7,n8,n9,n10] 32))):=Hd bnew
 clear hS
 go_enter Tryz.func69,Tryz.ntmps69
 go_wp2_with fail
 refine (HW.out _).mono ?_
 rintro e w9 ⟨hb9,hr9⟩
 have hbb:=HB.out.trans (hb9.mono (by simp))
 cases hg:wholeO oRem m n with
 | some k =>
  rw[hg]at hr9
  obtain ⟨v9,rfl,hv9⟩:=hr9
  go_wp2
  go_ret
  exact ⟨hbb,by rw[HF.out,hg];exact ⟨v9,rfl,hv9⟩⟩
 | none =>
  rw[hg]at hr9
  obtain rfl:=hr9
  exact ⟨rfl,hbb,by rw[HF.out,hg];rfl⟩
theorem reckon_rem (a:Int) (p:Value) (nm:ByteArray) (y:List Value) (hy:Eleven y) (hp:p.oneCell'=true) (x z:V) (vx vz:Value) (S:Nat→Prop) (w:World) (hS:∀b,S b→b<w.heap.size) (hx:RdS w S x vx) (hz:RdS w S z vz) (hk:¬(kindV x=3∧kindV z=3)) :
  Calls Tryz.prog 69 #[eV oRem a p nm y,vx,vz] w (OutPost S (reckonV oRem a x z) w):=by
 have hb:(decide (kindV x=3)&&decide (kindV z=3))=false:=by simpa using hk
 have HX:=Hd (fun (W:World) (hW:Below w.heap.size w W)=>float_any x vx S W (hx.to hS hW))
 have HZ:=Hd (fun (W:World) (hW:Below w.heap.size w W)=>float_any z vz S W (hz.to hS hW))
 unfold FloatPost at HX HZ
 obtain ⟨r1,kx⟩:=ta_int_any hx 20
 obtain ⟨r2,kz⟩:=ta_int_any hz 20
 have HU:=Hd (reckonV_not (op:=oRem) (a:=a) hk)
 clear hx hz hS
 generalize decide (kindV x=3)=b1 at *
 have hbb:(b1&&decide (kindV z=3))=false:=hb
 generalize decide (kindV z=3)=b2 at *
 clear hb
 have HBad:=Hd (fun (W:World)=>bad_any oRem a p nm y hy hp W)
 obtain ⟨n0,n1,n2,n3,n4,n5,n6,n7,n8,n9,n10,rfl,h1⟩:=hy
 clear h1
 unfold eV at *
 have HB:Hid (Below w.heap.size w (w.alloc (.cells #[.string oRem,.int .i64 a,p,.string nm,n0,n1,n2,n3,n4,n5,n6,n7,n8,n9,n10] 32))):=Hd bnew
 have ho:b1=false∨(b1=true∧b2=false):=by cases b1 <;> simp_all
 clear hbb
 cases fx:floatOf x with
 | none =>
  have HF:Hid (reckonV oRem a x z=.gone a 172):=Hd (by rw[HU.out,fx];rfl)
  rw[fx]at HX
  clear HU
  rcases ho with rfl|⟨rfl,rfl⟩
  ·go_enter Tryz.func69,Tryz.ntmps69
   go_wp2_with fail
   refine (HX.out _ HB.out).mono ?_
   rintro e w1 ⟨rfl,rfl⟩
   go_wp2_with fail
   refine (HZ.out _ HB.out).mono ?_
   rintro e w1 ⟨rfl,rfl⟩
   go_wp2_with fail
   refine (HBad.out _).mono ?_
   rintro e w9 ⟨rfl,hb9⟩
   exact ⟨rfl,HB.out.trans (hb9.mono (by simp)),by rw[HF.out]⟩
  ·go_enter Tryz.func69,Tryz.ntmps69
   go_wp2_with fail
   refine (HX.out _ HB.out).mono ?_
   rintro e w1 ⟨rfl,rfl⟩
   go_wp2_with fail
   refine (HZ.out _ HB.out).mono ?_
   rintro e w1 ⟨rfl,rfl⟩
   go_wp2_with fail
   refine (HBad.out _).mono ?_
   rintro e w9 ⟨rfl,hb9⟩
   exact ⟨rfl,HB.out.trans (hb9.mono (by simp)),by rw[HF.out]⟩
 | some f =>
  cases fz:floatOf z with
  | none =>
   have HF:Hid (reckonV oRem a x z=.gone a 172):=Hd (by rw[HU.out,fx,fz];rfl)
   rw[fx]at HX
   rw[fz]at HZ
   clear HU
   rcases ho with rfl|⟨rfl,rfl⟩
   ·go_enter Tryz.func69,Tryz.ntmps69
    go_wp2_with fail
    refine (HX.out _ HB.out).mono ?_
    rintro e w1 ⟨rfl,rfl⟩
    go_wp2_with fail
    refine (HZ.out _ HB.out).mono ?_
    rintro e w1 ⟨rfl,rfl⟩
    go_wp2_with fail
    refine (HBad.out _).mono ?_
    rintro e w9 ⟨rfl,hb9⟩
    exact ⟨rfl,HB.out.trans (hb9.mono (by simp)),by rw[HF.out]⟩
   ·go_enter Tryz.func69,Tryz.ntmps69
    go_wp2_with fail
    refine (HX.out _ HB.out).mono ?_
    rintro e w1 ⟨rfl,rfl⟩
    go_wp2_with fail
    refine (HZ.out _ HB.out).mono ?_
    rintro e w1 ⟨rfl,rfl⟩
    go_wp2_with fail
    refine (HBad.out _).mono ?_
    rintro e w9 ⟨rfl,hb9⟩
    exact ⟨rfl,HB.out.trans (hb9.mono (by simp)),by rw[HF.out]⟩
  | some g =>
   rw[fx]at HX
   rw[fz]at HZ
   have HF:Hid (reckonV oRem a x z=.gone a 172):=Hd (by rw[HU.out,fx,fz];rfl)
   clear HU
   rcases ho with rfl|⟨rfl,rfl⟩
   ·go_enter Tryz.func69,Tryz.ntmps69
    go_wp2_with fail
    refine (HX.out _ HB.out).mono ?_
    rintro e w1 ⟨rfl,rfl⟩
    go_wp2_with fail
    refine (HZ.out _ HB.out).mono ?_
    rintro e w1 ⟨rfl,rfl⟩
    go_wp2_with fail
    refine (HBad.out _).mono ?_
    rintro e w9 ⟨rfl,hb9⟩
    exact ⟨rfl,HB.out.trans (hb9.mono (by simp)),by rw[HF.out]⟩
   ·go_enter Tryz.func69,Tryz.ntmps69
    go_wp2_with fail
    refine (HX.out _ HB.out).mono ?_
    rintro e w1 ⟨rfl,rfl⟩
    go_wp2_with fail
    refine (HZ.out _ HB.out).mono ?_
    rintro e w1 ⟨rfl,rfl⟩
    go_wp2_with fail
    refine (HBad.out _).mono ?_
    rintro e w9 ⟨rfl,hb9⟩
    exact ⟨rfl,HB.out.trans (hb9.mono (by simp)),by rw[HF.out]⟩
end Go.Proofs.YtbemeapjeipjlaaGreatDoor
