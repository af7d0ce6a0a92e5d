/- Walks: query.equal, less, nan. -/
import Derived.Test.YtbemeapjeipjlaaGreatDoorQN11
set_option linter.unusedVariables false
set_option linter.unusedSimpArgs false
namespace Go.Proofs.YtbemeapjeipjlaaGreatDoor
open Go Go.RowKit
set_option maxRecDepth 100000
set_option maxHeartbeats 8000000
attribute [local go_sem] ta_no_bool ta_yes_bool ta_nil_bool ta_no_int64 ta_yes_int64 ta_nil_int64 ta_no_flt ta_yes_flt ta_nil_flt ta_no_str ta_yes_str ta_nil_str ta_no_byt ta_yes_byt ta_nil_byt ta_no_ref ta_yes_ref ta_nil_ref ta_no_lst ta_yes_lst ta_nil_lst ta_no_dct ta_yes_dct ta_nil_dct ta_no_rec ta_yes_rec ta_nil_rec
theorem equal_if (n:Int) (f:Nat) (w:World):Calls Tryz.prog 100 #[.iface 2 (.int .i64 n),.iface 23 (.float .f64 f)] w (BoolPost (equalV (.int n) (.flt f)) w):=by
 have HX:=Hd (exact_any f w)
 unfold PairPost at HX
 cases he:exactV f with
 | none =>
  have HF:Hid (equalV (.int n) (.flt f)=false):=Hd (by rw[equalV,he])
  rw[he]at HX
  clear he
  go_enter Tryz.func100,Tryz.ntmps100
  go_wp2_with fail
  refine HX.out.mono ?_
  rintro e w1 ⟨rfl,rfl⟩
  go_wp2
  go_ret
  exact ⟨ret_bool HF.out.symm,Below.refl _ _⟩
 | some m =>
  have HF:Hid (equalV (.int n) (.flt f)=(m==n)):=Hd (by rw[equalV,he])
  rw[he]at HX
  clear he
  go_enter Tryz.func100,Tryz.ntmps100
  go_wp2_with fail
  refine HX.out.mono ?_
  rintro e w1 ⟨rfl,rfl⟩
  go_wp2
  go_ret
  exact ⟨ret_bool HF.out.symm,Below.refl _ _⟩
theorem equalV_same {x y:V} (h:¬(kindV x=3∧kindV y=4)) (h2:¬(kindV x=4∧kindV y=3)):equalV x y=sameV x y:=by
 cases x <;> cases y <;> first|rfl|exact absurd ⟨rfl,rfl⟩ h|exact absurd ⟨rfl,rfl⟩ h2
theorem equal_any (x y:V) (vx vy:Value) (S:Nat→Prop) (w:World) (hS:∀b,S b→b<w.heap.size) (hx:RdS w S x vx) (hy:RdS w S y vy) :
  Calls Tryz.prog 100 #[vx,vy] w (BoolPost (equalV x y) w):=by
 have HS:=Hd (same_any x y vx vy w (hx.toR hS (Below.refl _ _)) (hy.toR hS (Below.refl _ _)))
 by_cases h3:kindV x=3
 ·by_cases h4:kindV y=4
  ·obtain ⟨n,rfl⟩:=kind_is_int h3
   obtain ⟨f,rfl⟩:=kind_is_flt h4
   obtain ⟨rfl,_⟩:=hx
   obtain rfl:=hy
   exact equal_if n f w
  ·have HF:=Hd (equalV_same (x:=x) (y:=y) (fun h=>h4 h.2) (fun h=>by omega))
   obtain ⟨n,rfl⟩:=kind_is_int h3
   obtain ⟨rfl,_⟩:=hx
   have k0:=not_flt hy 20 w h4
   clear h3 h4 hy
   go_enter Tryz.func100,Tryz.ntmps100
   go_wp2_with fail
   refine HS.out.mono ?_
   rintro e w1 ⟨rfl,hb1⟩
   go_wp2
   go_ret
   exact ⟨ret_bool HF.out.symm,hb1⟩
 by_cases h4:kindV x=4
 ·by_cases h3':kindV y=3
  ·obtain ⟨f,rfl⟩:=kind_is_flt h4
   obtain ⟨n,rfl⟩:=kind_is_int h3'
   obtain ⟨rfl,_⟩:=hy
   obtain rfl:=hx
   have HE:=Hd (equal_if n f w)
   have HF:Hid (equalV (.flt f) (.int n)=equalV (.int n) (.flt f)):=Hd (by rw[equalV,equalV])
   clear h3 h3' h4 HS
   go_enter Tryz.func100,Tryz.ntmps100
   go_wp2_with fail
   refine HE.out.mono ?_
   rintro e w1 ⟨rfl,hb1⟩
   go_wp2
   go_ret
   exact ⟨ret_bool HF.out.symm,hb1⟩
  ·have HF:=Hd (equalV_same (x:=x) (y:=y) (fun h=>by omega) (fun h=>h3' h.2))
   obtain ⟨f,rfl⟩:=kind_is_flt h4
   obtain rfl:=hx
   have k0:=not_int hy 20 w h3'
   clear h3 h3' h4 hy
   go_enter Tryz.func100,Tryz.ntmps100
   go_wp2_with fail
   refine HS.out.mono ?_
   rintro e w1 ⟨rfl,hb1⟩
   go_wp2
   go_ret
   exact ⟨ret_bool HF.out.symm,hb1⟩
 ·have HF:=Hd (equalV_same (x:=x) (y:=y) (fun h=>h3 h.1) (fun h=>h4 h.1))
  have k0:=not_int hx 20 w h3
  have k1:=not_flt hx 20 w h4
  clear h3 h4 hx hy
  go_enter Tryz.func100,Tryz.ntmps100
  go_wp2_with fail
  refine HS.out.mono ?_
  rintro e w1 ⟨rfl,hb1⟩
  go_wp2
  go_ret
  exact ⟨ret_bool HF.out.symm,hb1⟩
theorem nan_any (x:V) (v:Value) (S:Nat→Prop) (w:World) (hx:RdS w S x v):Calls Tryz.prog 105 #[v] w (fun e w'=>e=.returned (.bool (nanOf x))∧w=w'):=by
 by_cases h4:kindV x=4
 ·obtain ⟨f,rfl⟩:=kind_is_flt h4
  obtain rfl:=hx
  have HN:=Hd (isNaN_any f w)
  clear h4
  go_enter Tryz.func105,Tryz.ntmps105
  go_wp2_with fail
  refine HN.out.mono ?_
  rintro e w1 ⟨rfl,rfl⟩
  go_wp2
  go_ret
  exact ⟨rfl,rfl⟩
 ·have k0:=not_flt hx 20 w h4
  have HF:Hid (nanOf x=false):=Hd (by cases x <;> first|rfl|exact absurd rfl h4)
  clear hx h4
  go_enter Tryz.func105,Tryz.ntmps105
  go_wp2
  go_ret
  exact ⟨ret_bool HF.out.symm,rfl⟩
def LessPost (r:Option Bool) (w:World) (e:Ending) (w':World):Prop:=e=.returned (.tuple #[.bool (r.getD false),.bool r.isSome])∧w=w'
theorem ordB_nil (a:List UInt8):¬ordB a []<0:=by cases a <;> (rw[ordB];decide)
theorem bytesLess_nil (a:ByteArray):Op.bytesLess a.toList []=false:=by
 cases a.toList <;> rfl
theorem pair_ret {a b c d:Bool} (h:a=c) (h2:b=d):Ending.returned (.tuple #[.bool a,.bool b])=.returned (.tuple #[.bool c,.bool d]):=by rw[h,h2]
theorem less_ii (a b:Int) (w:World):Calls Tryz.prog 104 #[.iface 2 (.int .i64 a),.iface 2 (.int .i64 b)] w (LessPost (lessV (.int a) (.int b)) w):=by
 go_enter Tryz.func104,Tryz.ntmps104
 go_wp2
 go_ret2
 exact ⟨rfl,rfl⟩
theorem less_if (a:Int) (g:Nat) (w:World):Calls Tryz.prog 104 #[.iface 2 (.int .i64 a),.iface 23 (.float .f64 g)] w (LessPost (lessV (.int a) (.flt g)) w):=by
 have HC:=Hd (behind_any g a w)
 go_enter Tryz.func104,Tryz.ntmps104
 go_wp2_with fail
 refine HC.out.mono ?_
 rintro e w1 ⟨rfl,rfl⟩
 go_wp2
 go_ret2
 exact ⟨rfl,rfl⟩
theorem less_fi (f:Nat) (b:Int) (w:World):Calls Tryz.prog 104 #[.iface 23 (.float .f64 f),.iface 2 (.int .i64 b)] w (LessPost (lessV (.flt f) (.int b)) w):=by
 have HC:=Hd (ahead_any f b w)
 go_enter Tryz.func104,Tryz.ntmps104
 go_wp2_with fail
 refine HC.out.mono ?_
 rintro e w1 ⟨rfl,rfl⟩
 go_wp2
 go_ret2
 exact ⟨rfl,rfl⟩
theorem less_ff (f g:Nat) (w:World):Calls Tryz.prog 104 #[.iface 23 (.float .f64 f),.iface 23 (.float .f64 g)] w (LessPost (lessV (.flt f) (.flt g)) w):=by
 go_enter Tryz.func104,Tryz.ntmps104
 go_wp2
 go_ret2
 exact ⟨rfl,rfl⟩
theorem less_ix (a:Int) (y:V) (vy:Value) (S:Nat→Prop) (w:World) (hy:RdS w S y vy) (h3:kindV y≠3) (h4:kindV y≠4):Calls Tryz.prog 104 #[.iface 2 (.int .i64 a),vy] w (LessPost (lessV (.int a) y) w):=by
 have HF:Hid (lessV (.int a) y=none):=Hd (by cases y <;> first|rfl|exact absurd rfl h3|exact absurd rfl h4)
 have k3:=not_int hy 20 w h3
 have k4:=not_flt hy 20 w h4
 generalize lessV (.int a) y=r at *
 clear hy h3 h4
 go_enter Tryz.func104,Tryz.ntmps104
 go_wp2
 go_ret2
 exact ⟨by rw[HF.out];rfl,rfl⟩
theorem less_fx (f:Nat) (y:V) (vy:Value) (S:Nat→Prop) (w:World) (hy:RdS w S y vy) (h3:kindV y≠3) (h4:kindV y≠4):Calls Tryz.prog 104 #[.iface 23 (.float .f64 f),vy] w (LessPost (lessV (.flt f) y) w):=by
 have HF:Hid (lessV (.flt f) y=none):=Hd (by cases y <;> first|rfl|exact absurd rfl h3|exact absurd rfl h4)
 have k3:=not_int hy 20 w h3
 have k4:=not_flt hy 20 w h4
 generalize lessV (.flt f) y=r at *
 clear hy h3 h4
 go_enter Tryz.func104,Tryz.ntmps104
 go_wp2
 go_ret2
 exact ⟨by rw[HF.out];rfl,rfl⟩
theorem less_tt (a b:ByteArray) (w:World):Calls Tryz.prog 104 #[.iface 9 (.string a),.iface 9 (.string b)] w (LessPost (lessV (.text a) (.text b)) w):=by
 go_enter Tryz.func104,Tryz.ntmps104
 go_wp2
 go_ret2
 exact ⟨rfl,rfl⟩
theorem less_tx (a:ByteArray) (y:V) (vy:Value) (S:Nat→Prop) (w:World) (hy:RdS w S y vy) (h5:kindV y≠5):Calls Tryz.prog 104 #[.iface 9 (.string a),vy] w (LessPost (lessV (.text a) y) w):=by
 have HF:Hid (lessV (.text a) y=none):=Hd (by cases y <;> first|rfl|exact absurd rfl h5)
 have k5:=not_text hy 20 w h5
 generalize lessV (.text a) y=r at *
 clear hy h5
 have k9:=Hd (bytesLess_nil a)
 go_enter Tryz.func104,Tryz.ntmps104
 go_wp2
 go_ret2
 exact ⟨by rw[HF.out];exact pair_ret k9.out rfl,rfl⟩
theorem less_bb (a b:List UInt8) (A1 A2:Option Addr) (c1 c2:Nat) (S:Nat→Prop) (w:World) (l1:a.length≤140737488351232) (l2:b.length≤140737488351232) (r1:ByteRow w S A1 a) (r2:ByteRow w S A2 b):Calls Tryz.prog 104 #[.iface 24 (.slice A1 a.length c1),.iface 24 (.slice A2 b.length c2)] w (LessPost (lessV (.bytes a) (.bytes b)) w):=by
 have HC:=Hd (compare_bytes a b A1 A2 c1 c2 S w l1 l2 r1 r2)
 clear r1 r2
 go_enter Tryz.func104,Tryz.ntmps104
 go_wp2_with fail
 refine HC.out.mono ?_
 rintro e w1 ⟨rfl,rfl⟩
 go_wp2
 go_ret2
 exact ⟨rfl,rfl⟩
theorem less_bx (a:List UInt8) (A1:Option Addr) (c1:Nat) (l1:a.length≤140737488351232) (y:V) (vy:Value) (S:Nat→Prop) (w:World) (r1:ByteRow w S A1 a) (hy:RdS w S y vy) (h6:kindV y≠6):Calls Tryz.prog 104 #[.iface 24 (.slice A1 a.length c1),vy] w (LessPost (lessV (.bytes a) y) w):=by
 have HF:Hid (lessV (.bytes a) y=none):=Hd (by cases y <;> first|rfl|exact absurd rfl h6)
 have k6:=not_bytes hy 20 w h6
 generalize lessV (.bytes a) y=r at *
 clear hy h6
 go_enter Tryz.func104,Tryz.ntmps104
 have HC:Hid (Calls Tryz.prog 140 #[.slice A1 a.length c1,.slice none 0 0] w (NumPost (ordB a []) w)):=Hd (compare_bytes a [] A1 none c1 0 S w l1 (by simp) r1 (.inl rfl))
 have hq:=Hd (ordB_nil a)
 clear r1
 go_wp2_with fail
 refine HC.out.mono ?_
 rintro e w1 ⟨rfl,rfl⟩
 go_wp2
 go_ret2
 exact ⟨by rw[HF.out];exact pair_ret (decide_eq_false (ordB_nil a)) rfl,rfl⟩
theorem less_oo (a b:Bool) (w:World):Calls Tryz.prog 104 #[.iface 4 (.bool a),.iface 4 (.bool b)] w (LessPost (lessV (.bool a) (.bool b)) w):=by
 cases a
 all_goals
  go_enter Tryz.func104,Tryz.ntmps104
  go_wp2
  go_ret2
  exact ⟨rfl,rfl⟩
theorem less_ox (a:Bool) (y:V) (vy:Value) (S:Nat→Prop) (w:World) (hy:RdS w S y vy) (h2:kindV y≠2):Calls Tryz.prog 104 #[.iface 4 (.bool a),vy] w (LessPost (lessV (.bool a) y) w):=by
 have HF:Hid (lessV (.bool a) y=none):=Hd (by cases y <;> first|rfl|exact absurd rfl h2)
 have k2:=not_bool hy 20 w h2
 generalize lessV (.bool a) y=r at *
 clear hy h2
 cases a
 all_goals
 go_enter Tryz.func104,Tryz.ntmps104
 go_wp2
 go_ret2
 exact ⟨by rw[HF.out];rfl,rfl⟩
theorem less_other (x y:V) (vx vy:Value) (S:Nat→Prop) (w:World) (hx:RdS w S x vx) (h2:kindV x≠2) (h3:kindV x≠3) (h4:kindV x≠4) (h5:kindV x≠5) (h6:kindV x≠6):Calls Tryz.prog 104 #[vx,vy] w (LessPost (lessV x y) w):=by
 have HF:Hid (lessV x y=none):=Hd (by cases x <;> first|rfl|exact absurd rfl h2|exact absurd rfl h3|exact absurd rfl h4|exact absurd rfl h5|exact absurd rfl h6)
 have k2:=not_bool hx 20 w h2
 have k3:=not_int hx 20 w h3
 have k4:=not_flt hx 20 w h4
 have k5:=not_text hx 20 w h5
 have k6:=not_bytes hx 20 w h6
 generalize lessV x y=r at *
 clear hx h2 h3 h4 h5 h6
 go_enter Tryz.func104,Tryz.ntmps104
 go_wp2
 go_ret2
 exact ⟨by rw[HF.out];rfl,rfl⟩
theorem less_any (x y:V) (vx vy:Value) (S:Nat→Prop) (w:World) (hx:RdS w S x vx) (hy:RdS w S y vy):Calls Tryz.prog 104 #[vx,vy] w (LessPost (lessV x y) w):=by
 by_cases h3:kindV x=3
 ·obtain ⟨a,rfl⟩:=kind_is_int h3
  obtain ⟨rfl,_⟩:=hx
  by_cases g3:kindV y=3
  ·obtain ⟨b,rfl⟩:=kind_is_int g3
   obtain ⟨rfl,_⟩:=hy
   exact less_ii a b w
  by_cases g4:kindV y=4
  ·obtain ⟨b,rfl⟩:=kind_is_flt g4
   obtain rfl:=hy
   exact less_if a b w
  exact less_ix a y vy S w hy g3 g4
 by_cases h4:kindV x=4
 ·obtain ⟨a,rfl⟩:=kind_is_flt h4
  obtain rfl:=hx
  by_cases g3:kindV y=3
  ·obtain ⟨b,rfl⟩:=kind_is_int g3
   obtain ⟨rfl,_⟩:=hy
   exact less_fi a b w
  by_cases g4:kindV y=4
  ·obtain ⟨b,rfl⟩:=kind_is_flt g4
   obtain rfl:=hy
   exact less_ff a b w
  exact less_fx a y vy S w hy g3 g4
 by_cases h5:kindV x=5
 ·obtain ⟨a,rfl⟩:=kind_is_text h5
  obtain ⟨rfl,_⟩:=hx
  by_cases g5:kindV y=5
  ·obtain ⟨b,rfl⟩:=kind_is_text g5
   obtain ⟨rfl,_⟩:=hy
   exact less_tt a b w
  exact less_tx a y vy S w hy g5
 by_cases h6:kindV x=6
 ·obtain ⟨a,rfl⟩:=kind_is_bytes h6
  obtain ⟨A1,c1,rfl,l1,-,r1⟩:=hx
  by_cases g6:kindV y=6
  ·obtain ⟨b,rfl⟩:=kind_is_bytes g6
   obtain ⟨A2,c2,rfl,l2,-,r2⟩:=hy
   exact less_bb a b A1 A2 c1 c2 S w l1 l2 r1 r2
  exact less_bx a A1 c1 l1 y vy S w r1 hy g6
 by_cases h2:kindV x=2
 ·obtain ⟨a,rfl⟩:=kind_is_bool h2
  obtain rfl:=hx
  by_cases g2:kindV y=2
  ·obtain ⟨b,rfl⟩:=kind_is_bool g2
   obtain rfl:=hy
   exact less_oo a b w
  exact less_ox a y vy S w hy g2
 exact less_other x y vx vy S w hx h2 h3 h4 h5 h6
theorem nan_cut (t:Nat):nanB ((t % 2)*2 ^ 63+0x7ff0000000000000+1+(t / 2) % (2 ^ 52-1))=true:=by
 have hr:∃s f,Ieee.double.read ((t % 2)*2 ^ 63+0x7ff0000000000000+1+(t / 2) % (2 ^ 52-1))=.nan s f:=by
  unfold Ieee.Format.read
  rw[f64_sign,f64_binade,f64_inf,f64_least]
  have:((t % 2)*2 ^ 63+0x7ff0000000000000+1+(t / 2) % (2 ^ 52-1)) % 9223372036854775808=9218868437227405312+1+(t / 2) % (2 ^ 52-1):=by omega
  simp only[this]
  rw[if_neg (by omega),if_neg (by omega),if_neg (by omega)]
  exact ⟨_,_,rfl⟩
 obtain ⟨s,f,hr⟩:=hr
 unfold nanB
 rw[show ordF _ _=none from nan_order (s:=0) hr];rfl
theorem run_float_nan {P:Program} (o:BinOp) (ho:o=.add∨o=.sub∨o=.mul∨o=.quo) (t:TypeId) (x y:Nat) (w:World) (h:floatBits o .f64 x y=none) :
  ∃b,(binOp o t (.float .f64 x) (.float .f64 y)).run P w=.ok (.float .f64 b) w.drew∧nanB b=true:=by
 rcases ho with rfl|rfl|rfl|rfl
 all_goals
  refine ⟨_,?_,nan_cut (w.tape w.drawn (.nanBits .f64 x y))⟩
  unfold floatBits at h
  simp only at h
  simp[binOp,Op.floatArith,h,choose,Sem.run,Question.forced,Question.cut]
theorem held_eq (a:Int) (p:Value) (nm:ByteArray) (y:List Value) (hy:Eleven y) (hp:p.oneCell'=true) (x z:V) (vx vz:Value) (S:Nat→Prop) (w:World) (hS:∀b,S b→b<w.heap.size) (hx:RdS w S x vx) (hz:RdS w S z vz) :
  Calls Tryz.prog 70 #[eV oEq a p nm y,vx,vz] w (OutPost S (heldV oEq a x z) w):=by
 have HE:=Hd (fun (W:World) (hW:Below w.heap.size w W)=>equal_any x z vx vz S W (fun b h=>Nat.lt_of_lt_of_le (hS b h) hW.size) (hx.to hS hW) (hz.to hS hW))
 have HF:Hid (heldV oEq a x z=.val (.bool (equalV x z))):=Hd (by unfold heldV;rw[if_pos rfl])
 generalize equalV x z=r at *
 clear hx hz hS
 have HBad:=Hd (fun (W:World)=>bad_any oEq a p nm y hy hp W)
 obtain ⟨n0,n1,n2,n3,n4,n5,n6,n7,n8,n9,n10,rfl,h1⟩:=hy
 clear h1
 unfold eV at *
 have HB:Hid (Below w.heap.size w (w.alloc (.cells #[.string oEq,.int .i64 a,p,.string nm,n0,n1,n2,n3,n4,n5,n6,n7,n8,n9,n10] 32))):=Hd bnew
 go_enter Tryz.func70,Tryz.ntmps70
 go_wp2_with fail
 refine (HE.out _ HB.out).mono ?_
 rintro e w1 ⟨rfl,hb1⟩
 go_wp2
 go_ret
 exact ⟨HB.out.trans (hb1.mono (by simp)),by rw[HF.out];exact ⟨_,rfl,rfl⟩⟩
theorem held_ne (a:Int) (p:Value) (nm:ByteArray) (y:List Value) (hy:Eleven y) (hp:p.oneCell'=true) (x z:V) (vx vz:Value) (S:Nat→Prop) (w:World) (hS:∀b,S b→b<w.heap.size) (hx:RdS w S x vx) (hz:RdS w S z vz) :
  Calls Tryz.prog 70 #[eV oNe a p nm y,vx,vz] w (OutPost S (heldV oNe a x z) w):=by
 have HE:=Hd (fun (W:World) (hW:Below w.heap.size w W)=>equal_any x z vx vz S W (fun b h=>Nat.lt_of_lt_of_le (hS b h) hW.size) (hx.to hS hW) (hz.to hS hW))
 have HF:Hid (heldV oNe a x z=.val (.bool (!equalV x z))):=Hd (by unfold heldV;rw[if_neg (by decide),if_pos rfl])
 generalize equalV x z=r at *
 clear hx hz hS
 have HBad:=Hd (fun (W:World)=>bad_any oNe a p nm y hy hp W)
 obtain ⟨n0,n1,n2,n3,n4,n5,n6,n7,n8,n9,n10,rfl,h1⟩:=hy
 clear h1
 unfold eV at *
 have HB:Hid (Below w.heap.size w (w.alloc (.cells #[.string oNe,.int .i64 a,p,.string nm,n0,n1,n2,n3,n4,n5,n6,n7,n8,n9,n10] 32))):=Hd bnew
 go_enter Tryz.func70,Tryz.ntmps70
 go_wp2_with fail
 refine (HE.out _ HB.out).mono ?_
 rintro e w1 ⟨rfl,hb1⟩
 go_wp2
 go_ret
 exact ⟨HB.out.trans (hb1.mono (by simp)),by rw[HF.out];exact ⟨_,rfl,rfl⟩⟩
theorem held_lt (a:Int) (p:Value) (nm:ByteArray) (y:List Value) (hy:Eleven y) (hp:p.oneCell'=true) (x z:V) (vx vz:Value) (S:Nat→Prop) (w:World) (hS:∀b,S b→b<w.heap.size) (hx:RdS w S x vx) (hz:RdS w S z vz) :
  Calls Tryz.prog 70 #[eV oLt a p nm y,vx,vz] w (OutPost S (heldV oLt a x z) w):=by
 have HL:=Hd (fun (W:World) (hW:Below w.heap.size w W)=>less_any x z vx vz S W (hx.to hS hW) (hz.to hS hW))
 unfold LessPost at HL
 have HU:Hid (heldV oLt a x z=(match lessV x z with|none=>.gone a 172|some b=>.val (.bool b))):=Hd (by unfold heldV;rw[if_neg (by decide),if_neg (by decide),if_pos rfl];rfl)
 clear hx hz hS
 have HBad:=Hd (fun (W:World)=>bad_any oLt a p nm y hy hp W)
 obtain ⟨n0,n1,n2,n3,n4,n5,n6,n7,n8,n9,n10,rfl,h1⟩:=hy
 clear h1
 unfold eV at *
 have HB:Hid (Below w.heap.size w (w.alloc (.cells #[.string oLt,.int .i64 a,p,.string nm,n0,n1,n2,n3,n4,n5,n6,n7,n8,n9,n10] 32))):=Hd bnew
 cases hl:lessV x z with
 | none =>
  have HF:Hid (heldV oLt a x z=.gone a 172):=Hd (by rw[HU.out,hl])
  rw[hl]at HL
  clear hl HU
  go_enter Tryz.func70,Tryz.ntmps70
  go_wp2_with fail
  refine (HL.out _ HB.out).mono ?_
  rintro e w1 ⟨rfl,rfl⟩
  go_wp2_with fail
  refine (HBad.out _).mono ?_
  rintro e w9 ⟨rfl,hb9⟩
  exact ⟨rfl,HB.out.trans (hb9.mono (by simp)),by rw[HF.out]⟩
 | some b =>
  have HF:Hid (heldV oLt a x z=.val (.bool b)):=Hd (by rw[HU.out,hl])
  rw[hl]at HL
  clear hl HU
  go_enter Tryz.func70,Tryz.ntmps70
  go_wp2_with fail
  refine (HL.out _ HB.out).mono ?_
  rintro e w1 ⟨rfl,rfl⟩
  go_wp2
  go_ret
  exact ⟨HB.out,by rw[HF.out];exact ⟨_,rfl,rfl⟩⟩
theorem held_gt (a:Int) (p:Value) (nm:ByteArray) (y:List Value) (hy:Eleven y) (hp:p.oneCell'=true) (x z:V) (vx vz:Value) (S:Nat→Prop) (w:World) (hS:∀b,S b→b<w.heap.size) (hx:RdS w S x vx) (hz:RdS w S z vz) :
  Calls Tryz.prog 70 #[eV oGt a p nm y,vx,vz] w (OutPost S (heldV oGt a x z) w):=by
 have HL:=Hd (fun (W:World) (hW:Below w.heap.size w W)=>less_any z x vz vx S W (hz.to hS hW) (hx.to hS hW))
 unfold LessPost at HL
 have HU:Hid (heldV oGt a x z=(match lessV z x with|none=>.gone a 172|some b=>.val (.bool b))):=Hd (by unfold heldV;rw[if_neg (by decide),if_neg (by decide),if_neg (by decide),if_pos rfl];rfl)
 clear hx hz hS
 have HBad:=Hd (fun (W:World)=>bad_any oGt a p nm y hy hp W)
 obtain ⟨n0,n1,n2,n3,n4,n5,n6,n7,n8,n9,n10,rfl,h1⟩:=hy
 clear h1
 unfold eV at *
 have HB:Hid (Below w.heap.size w (w.alloc (.cells #[.string oGt,.int .i64 a,p,.string nm,n0,n1,n2,n3,n4,n5,n6,n7,n8,n9,n10] 32))):=Hd bnew
 cases hl:lessV z x with
 | none =>
  have HF:Hid (heldV oGt a x z=.gone a 172):=Hd (by rw[HU.out,hl])
  rw[hl]at HL
  clear hl HU
  go_enter Tryz.func70,Tryz.ntmps70
  go_wp2_with fail
  refine (HL.out _ HB.out).mono ?_
  rintro e w1 ⟨rfl,rfl⟩
  go_wp2_with fail
  refine (HBad.out _).mono ?_
  rintro e w9 ⟨rfl,hb9⟩
  exact ⟨rfl,HB.out.trans (hb9.mono (by simp)),by rw[HF.out]⟩
 | some b =>
  have HF:Hid (heldV oGt a x z=.val (.bool b)):=Hd (by rw[HU.out,hl])
  rw[hl]at HL
  clear hl HU
  go_enter Tryz.func70,Tryz.ntmps70
  go_wp2_with fail
  refine (HL.out _ HB.out).mono ?_
  rintro e w1 ⟨rfl,rfl⟩
  go_wp2
  go_ret
  exact ⟨HB.out,by rw[HF.out];exact ⟨_,rfl,rfl⟩⟩
theorem held_le (a:Int) (p:Value) (nm:ByteArray) (y:List Value) (hy:Eleven y) (hp:p.oneCell'=true) (x z:V) (vx vz:Value) (S:Nat→Prop) (w:World) (hS:∀b,S b→b<w.heap.size) (hx:RdS w S x vx) (hz:RdS w S z vz) :
  Calls Tryz.prog 70 #[eV oLe a p nm y,vx,vz] w (OutPost S (heldV oLe a x z) w):=by
 have HL:=Hd (fun (W:World) (hW:Below w.heap.size w W)=>less_any z x vz vx S W (hz.to hS hW) (hx.to hS hW))
 unfold LessPost at HL
 have HN1:=Hd (fun (W:World) (hW:Below w.heap.size w W)=>nan_any z vz S W (hz.to hS hW))
 have HN2:=Hd (fun (W:World) (hW:Below w.heap.size w W)=>nan_any x vx S W (hx.to hS hW))
 have HU:Hid (heldV oLe a x z=(match lessV z x with|none=>.gone a 172|some b=>.val (.bool (!b&&(!nanOf z&&!nanOf x))))):=Hd (by unfold heldV;rw[if_neg (by decide),if_neg (by decide),if_neg (by decide),if_neg (by decide),if_pos rfl];rfl)
 clear hx hz hS
 have HBad:=Hd (fun (W:World)=>bad_any oLe a p nm y hy hp W)
 obtain ⟨n0,n1,n2,n3,n4,n5,n6,n7,n8,n9,n10,rfl,h1⟩:=hy
 clear h1
 unfold eV at *
 have HB:Hid (Below w.heap.size w (w.alloc (.cells #[.string oLe,.int .i64 a,p,.string nm,n0,n1,n2,n3,n4,n5,n6,n7,n8,n9,n10] 32))):=Hd bnew
 cases hl:lessV z x with
 | none =>
  have HF:Hid (heldV oLe a x z=.gone a 172):=Hd (by rw[HU.out,hl])
  rw[hl]at HL
  clear hl HU
  go_enter Tryz.func70,Tryz.ntmps70
  go_wp2_with fail
  refine (HL.out _ HB.out).mono ?_
  rintro e w1 ⟨rfl,rfl⟩
  go_wp2_with fail
  refine (HBad.out _).mono ?_
  rintro e w9 ⟨rfl,hb9⟩
  exact ⟨rfl,HB.out.trans (hb9.mono (by simp)),by rw[HF.out]⟩
 | some b =>
  have HF:Hid (heldV oLe a x z=.val (.bool (!b&&(!nanOf z&&!nanOf x)))):=Hd (by rw[HU.out,hl])
  rw[hl]at HL
  clear hl HU
  cases b with
  | true =>
   go_enter Tryz.func70,Tryz.ntmps70
   go_wp2_with fail
   refine (HL.out _ HB.out).mono ?_
   rintro e w1 ⟨rfl,rfl⟩
   go_wp2
   go_ret
   exact ⟨HB.out,by rw[HF.out];exact ⟨_,rfl,rfl⟩⟩
  | false =>
   cases g1:nanOf z with
   | true =>
    rw[g1]at HN1 HF
    clear g1
    go_enter Tryz.func70,Tryz.ntmps70
    go_wp2_with fail
    refine (HL.out _ HB.out).mono ?_
    rintro e w1 ⟨rfl,rfl⟩
    go_wp2_with fail
    refine (HN1.out _ HB.out).mono ?_
    rintro e w1 ⟨rfl,rfl⟩
    go_wp2
    go_ret
    exact ⟨HB.out,by rw[HF.out];exact ⟨_,rfl,rfl⟩⟩
   | false =>
    rw[g1]at HN1 HF
    clear g1
    go_enter Tryz.func70,Tryz.ntmps70
    go_wp2_with fail
    refine (HL.out _ HB.out).mono ?_
    rintro e w1 ⟨rfl,rfl⟩
    go_wp2_with fail
    refine (HN1.out _ HB.out).mono ?_
    rintro e w1 ⟨rfl,rfl⟩
    go_wp2_with fail
    refine (HN2.out _ HB.out).mono ?_
    rintro e w1 ⟨rfl,rfl⟩
    go_wp2
    go_ret
    exact ⟨HB.out,by rw[HF.out];exact ⟨_,rfl,rfl⟩⟩
theorem held_ge (a:Int) (p:Value) (nm:ByteArray) (y:List Value) (hy:Eleven y) (hp:p.oneCell'=true) (x z:V) (vx vz:Value) (S:Nat→Prop) (w:World) (hS:∀b,S b→b<w.heap.size) (hx:RdS w S x vx) (hz:RdS w S z vz) :
  Calls Tryz.prog 70 #[eV oGe a p nm y,vx,vz] w (OutPost S (heldV oGe a x z) w):=by
 have HL:=Hd (fun (W:World) (hW:Below w.heap.size w W)=>less_any x z vx vz S W (hx.to hS hW) (hz.to hS hW))
 unfold LessPost at HL
 have HN1:=Hd (fun (W:World) (hW:Below w.heap.size w W)=>nan_any x vx S W (hx.to hS hW))
 have HN2:=Hd (fun (W:World) (hW:Below w.heap.size w W)=>nan_any z vz S W (hz.to hS hW))
 have HU:Hid (heldV oGe a x z=(match lessV x z with|none=>.gone a 172|some b=>.val (.bool (!b&&(!nanOf x&&!nanOf z))))):=Hd (by unfold heldV;rw[if_neg (by decide),if_neg (by decide),if_neg (by decide),if_neg (by decide),if_neg (by decide)];rfl)
 clear hx hz hS
 have HBad:=Hd (fun (W:World)=>bad_any oGe a p nm y hy hp W)
 obtain ⟨n0,n1,n2,n3,n4,n5,n6,n7,n8,n9,n10,rfl,h1⟩:=hy
 clear h1
 unfold eV at *
 have HB:Hid (Below w.heap.size w (w.alloc (.cells #[.string oGe,.int .i64 a,p,.string nm,n0,n1,n2,n3,n4,n5,n6,n7,n8,n9,n10] 32))):=Hd bnew
 cases hl:lessV x z with
 | none =>
  have HF:Hid (heldV oGe a x z=.gone a 172):=Hd (by rw[HU.out,hl])
  rw[hl]at HL
  clear hl HU
  go_enter Tryz.func70,Tryz.ntmps70
  go_wp2_with fail
  refine (HL.out _ HB.out).mono ?_
  rintro e w1 ⟨rfl,rfl⟩
  go_wp2_with fail
  refine (HBad.out _).mono ?_
  rintro e w9 ⟨rfl,hb9⟩
  exact ⟨rfl,HB.out.trans (hb9.mono (by simp)),by rw[HF.out]⟩
 | some b =>
  have HF:Hid (heldV oGe a x z=.val (.bool (!b&&(!nanOf x&&!nanOf z)))):=Hd (by rw[HU.out,hl])
  rw[hl]at HL
  clear hl HU
  cases b with
  | true =>
   go_enter Tryz.func70,Tryz.ntmps70
   go_wp2_with fail
   refine (HL.out _ HB.out).mono ?_
   rintro e w1 ⟨rfl,rfl⟩
   go_wp2
   go_ret
   exact ⟨HB.out,by rw[HF.out];exact ⟨_,rfl,rfl⟩⟩
  | false =>
   cases g1:nanOf x with
   | true =>
    rw[g1]at HN1 HF
    clear g1
    go_enter Tryz.func70,Tryz.ntmps70
    go_wp2_with fail
    refine (HL.out _ HB.out).mono ?_
    rintro e w1 ⟨rfl,rfl⟩
    go_wp2_with fail
    refine (HN1.out _ HB.out).mono ?_
    rintro e w1 ⟨rfl,rfl⟩
    go_wp2
    go_ret
    exact ⟨HB.out,by rw[HF.out];exact ⟨_,rfl,rfl⟩⟩
   | false =>
    rw[g1]at HN1 HF
    clear g1
    go_enter Tryz.func70,Tryz.ntmps70
    go_wp2_with fail
    refine (HL.out _ HB.out).mono ?_
    rintro e w1 ⟨rfl,rfl⟩
    go_wp2_with fail
    refine (HN1.out _ HB.out).mono ?_
    rintro e w1 ⟨rfl,rfl⟩
    go_wp2_with fail
    refine (HN2.out _ HB.out).mono ?_
    rintro e w1 ⟨rfl,rfl⟩
    go_wp2
    go_ret
    exact ⟨HB.out,by rw[HF.out];exact ⟨_,rfl,rfl⟩⟩
end Go.Proofs.YtbemeapjeipjlaaGreatDoor
