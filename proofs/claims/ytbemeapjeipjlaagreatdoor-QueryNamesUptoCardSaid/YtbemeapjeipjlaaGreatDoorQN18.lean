/- Walks: query.listed. -/
import Derived.Test.YtbemeapjeipjlaaGreatDoorQN17
import Derived.Test.YtbemeapjeipjlaaGreatDoorQN15
set_option linter.unusedVariables false
set_option linter.unusedSimpArgs false
namespace Go.Proofs.YtbemeapjeipjlaaGreatDoor
open Go Go.RowKit
set_option maxRecDepth 100000
set_option maxHeartbeats 8000000
attribute [local go_sem] ta_no_bool ta_yes_bool ta_nil_bool ta_no_int64 ta_yes_int64 ta_nil_int64 ta_no_flt ta_yes_flt ta_nil_flt ta_no_str ta_yes_str ta_nil_str ta_no_byt ta_yes_byt ta_nil_byt ta_no_ref ta_yes_ref ta_nil_ref ta_no_lst ta_yes_lst ta_nil_lst ta_no_dct ta_yes_dct ta_nil_dct ta_no_rec ta_yes_rec ta_nil_rec
def numV (n:V):Prop:=∃f,floatOf n=some f
theorem num_pure {n:V} (h:numV n) {w:World} {S:Nat→Prop} {v:Value} (hr:RdS w S n v) (w':World) (S':Nat→Prop):RdS w' S' n v:=by
 cases n with
 | int i=>exact hr
 | flt f=>exact hr
 | _=>obtain ⟨f,hf⟩:=h;cases hf
theorem num_small {n:V} (h:numV n):topSmall n:=by
 cases n with
 | int i=>trivial
 | flt f=>trivial
 | _=>obtain ⟨f,hf⟩:=h;cases hf
theorem arith_add:arith? oAdd=some .add:=by unfold arith?;rw[if_pos rfl]
theorem reckonV_num {a:Int} {n x m:V} (hn:numV n) (hx:numV x) (h:reckonV oAdd a n x=.val m):numV m:=by
 by_cases hk:kindV n=3∧kindV x=3
 ·obtain ⟨i,rfl⟩:=kind_is_int hk.1
  obtain ⟨j,rfl⟩:=kind_is_int hk.2
  change intOut a (wholeO oAdd i j)=_ at h
  cases hw:wholeO oAdd i j with
  | none=>rw[hw]at h;cases h
  | some k=>rw[hw]at h;injection h with h;subst h;exact ⟨_,rfl⟩
 ·obtain ⟨f,hf⟩:=hn
  obtain ⟨g,hg⟩:=hx
  rw[reckonV_not hk,hf,hg,arith_add]at h
  injection h with h;subst h;exact ⟨_,rfl⟩
theorem reckon_add_any (a:Int) (p:Value) (nm:ByteArray) (y:List Value) (hy:Eleven y) (hp:p.oneCell'=true) (x z:V) (vx vz:Value) (S:Nat→Prop) (w:World) (hS:∀b,S b→b<w.heap.size) (hx:RdS w S x vx) (hz:RdS w S z vz) (tx:topSmall x) (tz:topSmall z) :
  Calls Tryz.prog 69 #[eV oAdd a p nm y,vx,vz] w (OutPost S (reckonV oAdd a x z) w):=by
 by_cases hk:kindV x=3∧kindV z=3
 ·obtain ⟨i,rfl⟩:=kind_is_int hk.1
  obtain ⟨j,rfl⟩:=kind_is_int hk.2
  obtain ⟨rfl,h1⟩:=hx
  obtain ⟨rfl,h2⟩:=hz
  exact reckon_add_ints a p nm y hy hp i j S w hS h1 h2
 ·exact reckon_add a p nm y hy hp x z vx vz S w hS hx hz tx tz hk
theorem reckon_sub_any (a:Int) (p:Value) (nm:ByteArray) (y:List Value) (hy:Eleven y) (hp:p.oneCell'=true) (x z:V) (vx vz:Value) (S:Nat→Prop) (w:World) (hS:∀b,S b→b<w.heap.size) (hx:RdS w S x vx) (hz:RdS w S z vz) :
  Calls Tryz.prog 69 #[eV oSub a p nm y,vx,vz] w (OutPost S (reckonV oSub a x z) w):=by
 by_cases hk:kindV x=3∧kindV z=3
 ·obtain ⟨i,rfl⟩:=kind_is_int hk.1
  obtain ⟨j,rfl⟩:=kind_is_int hk.2
  obtain ⟨rfl,h1⟩:=hx
  obtain ⟨rfl,h2⟩:=hz
  exact reckon_sub_ints a p nm y hy hp i j S w hS h1 h2
 ·exact reckon_sub a p nm y hy hp x z vx vz S w hS hx hz hk
theorem reckon_mul_any (a:Int) (p:Value) (nm:ByteArray) (y:List Value) (hy:Eleven y) (hp:p.oneCell'=true) (x z:V) (vx vz:Value) (S:Nat→Prop) (w:World) (hS:∀b,S b→b<w.heap.size) (hx:RdS w S x vx) (hz:RdS w S z vz) :
  Calls Tryz.prog 69 #[eV oMul a p nm y,vx,vz] w (OutPost S (reckonV oMul a x z) w):=by
 by_cases hk:kindV x=3∧kindV z=3
 ·obtain ⟨i,rfl⟩:=kind_is_int hk.1
  obtain ⟨j,rfl⟩:=kind_is_int hk.2
  obtain ⟨rfl,h1⟩:=hx
  obtain ⟨rfl,h2⟩:=hz
  exact reckon_mul_ints a p nm y hy hp i j S w hS h1 h2
 ·exact reckon_mul a p nm y hy hp x z vx vz S w hS hx hz hk
theorem reckon_div_any (a:Int) (p:Value) (nm:ByteArray) (y:List Value) (hy:Eleven y) (hp:p.oneCell'=true) (x z:V) (vx vz:Value) (S:Nat→Prop) (w:World) (hS:∀b,S b→b<w.heap.size) (hx:RdS w S x vx) (hz:RdS w S z vz) :
  Calls Tryz.prog 69 #[eV oDiv a p nm y,vx,vz] w (OutPost S (reckonV oDiv a x z) w):=by
 by_cases hk:kindV x=3∧kindV z=3
 ·obtain ⟨i,rfl⟩:=kind_is_int hk.1
  obtain ⟨j,rfl⟩:=kind_is_int hk.2
  obtain ⟨rfl,h1⟩:=hx
  obtain ⟨rfl,h2⟩:=hz
  exact reckon_div_ints a p nm y hy hp i j S w hS h1 h2
 ·exact reckon_div a p nm y hy hp x z vx vz S w hS hx hz hk
theorem reckon_rem_any (a:Int) (p:Value) (nm:ByteArray) (y:List Value) (hy:Eleven y) (hp:p.oneCell'=true) (x z:V) (vx vz:Value) (S:Nat→Prop) (w:World) (hS:∀b,S b→b<w.heap.size) (hx:RdS w S x vx) (hz:RdS w S z vz) :
  Calls Tryz.prog 69 #[eV oRem a p nm y,vx,vz] w (OutPost S (reckonV oRem a x z) w):=by
 by_cases hk:kindV x=3∧kindV z=3
 ·obtain ⟨i,rfl⟩:=kind_is_int hk.1
  obtain ⟨j,rfl⟩:=kind_is_int hk.2
  obtain ⟨rfl,h1⟩:=hx
  obtain ⟨rfl,h2⟩:=hz
  exact reckon_rem_ints a p nm y hy hp i j S w hS h1 h2
 ·exact reckon_rem a p nm y hy hp x z vx vz S w hS hx hz hk
theorem zeros_eleven:Eleven [.int .i64 0,.bool false,.int .i64 0,.float .f64 0,.string ⟨#[]⟩,.slice none 0 0,.int .u64 0,.slice none 0 0,.slice none 0 0,.string ⟨#[]⟩,.int .i64 0]:=⟨_,_,_,_,_,_,_,_,_,_,_,rfl,by intro v hv;simp only[List.mem_cons,List.mem_nil_iff,or_false]at hv;rcases hv with rfl|rfl|rfl|rfl|rfl|rfl|rfl|rfl|rfl|rfl|rfl <;> rfl⟩
theorem listed_sum (op:ByteArray) (a:Int) (p:Value) (y:List Value) (hy:Eleven y) (hp:p.oneCell'=true) (l:List V) (A:Option Addr) (c:Nat) (S:Nat→Prop) (w:World) (hS:∀b,S b→b<w.heap.size) (hl:l.length≤1099511627776) (hr:ListS w S A l) (hsm:∀x∈l,topSmall x) :
  Calls Tryz.prog 97 #[eV op a p gSum y,.slice A l.length c] w (OutPost S (listedV gSum a l) w):=by
 have HL:Hid (listedV gSum a l=sumV a l (.int 0)):=Hd (by unfold listedV;rw[if_pos rfl])
 have HX:=Hd (fun (W:World) (hW:Below w.heap.size w W) (x:V) (vx:Value) (hx:RdS w S x vx)=>float_any x vx S W (hx.to hS hW))
 unfold FloatPost at HX
 have HR:=Hd (fun (W:World) (hW:Below w.heap.size w W) (n x:V) (vn vx:Value) (hn:numV n) (hx:RdS w S x vx) (hrn:RdS W (fun _=>False) n vn) (hxs:topSmall x)=>reckon_add_any a (.slice none 0 0) ⟨#[]⟩ [.int .i64 0,.bool false,.int .i64 0,.float .f64 0,.string ⟨#[]⟩,.slice none 0 0,.int .u64 0,.slice none 0 0,.slice none 0 0,.string ⟨#[]⟩,.int .i64 0] zeros_eleven rfl n x vn vx S W (fun b h=>Nat.lt_of_lt_of_le (hS b h) hW.size) (num_pure hn hrn _ _) (hx.to hS hW) (num_small hn) hxs)
 have HBad:=Hd (fun (W:World)=>bad_any op a p gSum y hy hp W)
 obtain ⟨n0,n1,n2,n3,n4,n5,n6,n7,n8,n9,n10,rfl,h1⟩:=hy
 clear h1
 unfold eV at *
 have HB:Hid (Below w.heap.size w (w.alloc (.cells #[.string op,.int .i64 a,p,.string gSum,n0,n1,n2,n3,n4,n5,n6,n7,n8,n9,n10] 32))):=Hd bnew
 have HB2:Hid (Below w.heap.size w ((w.alloc (.cells #[.string op,.int .i64 a,p,.string gSum,n0,n1,n2,n3,n4,n5,n6,n7,n8,n9,n10] 32)).alloc (.cells #[.string oAdd,.int .i64 a,.slice none 0 0,.string ⟨#[]⟩,.int .i64 0,.bool false,.int .i64 0,.float .f64 0,.string ⟨#[]⟩,.slice none 0 0,.int .u64 0,.slice none 0 0,.slice none 0 0,.string ⟨#[]⟩,.int .i64 0] 32))):=Hd (HB.out.alloc (by simp) _)
 have of:=fun W a m=>run_store Tryz.prog W a (.float .f64 0) m rfl
 go_enter Tryz.func97,Tryz.ntmps97
 go_wp2
 go_loopw [5,29] (fun v i wr=>∃(k:Nat) (n:V),i=.int .i64 k∧k≤l.length∧Hid (sumV a l (.int 0)=sumV a (l.drop k) n)∧numV n∧RdS wr (fun _=>False) n v∧Below (w.heap.size+2) ((w.alloc (.cells #[.string op,.int .i64 a,p,.string gSum,n0,n1,n2,n3,n4,n5,n6,n7,n8,n9,n10] 32)).alloc (.cells #[.string oAdd,.int .i64 a,.slice none 0 0,.string ⟨#[]⟩,.int .i64 0,.bool false,.int .i64 0,.float .f64 0,.string ⟨#[]⟩,.slice none 0 0,.int .u64 0,.slice none 0 0,.slice none 0 0,.string ⟨#[]⟩,.int .i64 0] 32)) wr) (fun _ i _=>l.length-(intOf i).toNat)
 case atStart=>exact ⟨0,.int 0,rfl,by omega,Hd rfl,⟨_,rfl⟩,⟨rfl,by decide,by decide⟩,Below.refl _ _⟩
 case round =>
  obtain ⟨k,n,rfl,hk,HT,hn,hrn,hb⟩:=hrel
  have hb0:Below w.heap.size w wr:=HB2.out.trans (hb.mono (by omega))
  have hz:=hb0.size
  have hz2:w.heap.size+2≤wr.heap.size:=by have:=hb.size;simp at this;omega
  by_cases hlt:k<l.length
  ·obtain ⟨x,hx⟩:∃x,l[k]?=some x:=⟨_,List.getElem?_eq_getElem hlt⟩
   obtain ⟨b,off,vx,rfl,hSb,c0,hvx⟩:=hr.get hx
   have d0:=(hb0.cell (p:=⟨b,off+k,none⟩) (hS b hSb)).trans c0
   have hxs:=hsm x (List.mem_of_getElem? hx)
   have HXX:=Hd (HX.out wr hb0 x vx hvx)
   have qe:∀o,wr.cell? ⟨w.heap.size,o,none⟩=((w.alloc (.cells #[.string op,.int .i64 a,p,.string gSum,n0,n1,n2,n3,n4,n5,n6,n7,n8,n9,n10] 32)).alloc (.cells #[.string oAdd,.int .i64 a,.slice none 0 0,.string ⟨#[]⟩,.int .i64 0,.bool false,.int .i64 0,.float .f64 0,.string ⟨#[]⟩,.slice none 0 0,.int .u64 0,.slice none 0 0,.slice none 0 0,.string ⟨#[]⟩,.int .i64 0] 32)).cell? ⟨w.heap.size,o,none⟩:=fun o=>hb.cell (p:=⟨w.heap.size,o,none⟩) (by simp)
   have qp:∀o,wr.cell? ⟨w.heap.size+1,o,none⟩=((w.alloc (.cells #[.string op,.int .i64 a,p,.string gSum,n0,n1,n2,n3,n4,n5,n6,n7,n8,n9,n10] 32)).alloc (.cells #[.string oAdd,.int .i64 a,.slice none 0 0,.string ⟨#[]⟩,.int .i64 0,.bool false,.int .i64 0,.float .f64 0,.string ⟨#[]⟩,.slice none 0 0,.int .u64 0,.slice none 0 0,.slice none 0 0,.string ⟨#[]⟩,.int .i64 0] 32)).cell? ⟨w.heap.size+1,o,none⟩:=fun o=>hb.cell (p:=⟨w.heap.size+1,o,none⟩) (by simp)
   have HDR:Hid (l.drop k=x :: l.drop (k+1)):=Hd (by rw[List.drop_eq_getElem_cons hlt];rw[List.getElem?_eq_getElem hlt]at hx;injection hx with hx;rw[hx])
   cases hf:floatOf x with
   | none =>
    have HF:Hid (listedV gSum a l=.gone a 172):=Hd (by rw[HL.out,HT.out,HDR.out];simp only[sumV,hf])
    rw[hf]at HXX
    clear hr hx HT c0 hsm HR
    go_wp2_with fail
    refine HXX.out.mono ?_
    rintro e w1 ⟨rfl,rfl⟩
    go_wp2_with fail
    refine (HBad.out _).mono ?_
    rintro e w9 ⟨rfl,hb9⟩
    exact ⟨rfl,below_then hb0 (Nat.le_refl _) hb9,by rw[HF.out]⟩
   | some g =>
    have HRR:=Hd (HR.out wr hb0 n x u5 vx hn hvx hrn hxs)
    have hnx:numV x:=⟨g,hf⟩
    rw[hf]at HXX
    have HU:Hid (sumV a l (.int 0)=match reckonV oAdd a n x with | .val m=>sumV a (l.drop (k+1)) m | .gone b w=>.gone b w):=Hd (by rw[HT.out,HDR.out,sumV,hf];rfl)
    clear hr hx HT c0 hsm HR hvx
    go_wp2_with fail
    refine HXX.out.mono ?_
    rintro e w1 ⟨rfl,rfl⟩
    go_wp2_with fail
    refine HRR.out.mono ?_
    rintro e w9 ⟨hb9,hr9⟩
    have hb10:=hb.trans (hb9.mono hz2)
    cases hg:reckonV oAdd a n x with
    | val m =>
     rw[hg]at hr9
     obtain ⟨v9,rfl,hv9⟩:=hr9
     have hnm:=reckonV_num hn hnx hg
     have hv10:=num_pure hnm hv9 w9 (fun _=>False)
     have HU2:Hid (sumV a l (.int 0)=sumV a (l.drop (k+1)) m):=Hd (by rw[HU.out,hg])
     clear hv9 hg HU
     go_wp2
     refine ⟨⟨k+1,m,rfl,hlt,HU2,hnm,hv10,hb10⟩,?_⟩
     simp[intOf];omega
    | gone b why =>
     rw[hg]at hr9
     obtain rfl:=hr9
     exact ⟨rfl,below_then hb0 (Nat.le_refl _) hb9,by rw[HL.out,HU.out,hg]⟩
  ·obtain rfl:k=l.length:=by omega
   have HF:Hid (listedV gSum a l=.val n):=Hd (by rw[HL.out,HT.out,List.drop_length,sumV])
   have HV:=Hd (num_pure hn hrn wr (fun b=>S b∨New w wr b))
   clear hr HT hsm HR hrn
   go_wp2
   go_ret
   exact ⟨hb0,by rw[HF.out];exact ⟨_,rfl,HV.out⟩⟩
theorem listed_nil_gFirst (op:ByteArray) (a:Int) (p:Value) (y:List Value) (hy:Eleven y) (hp:p.oneCell'=true) (A:Option Addr) (c:Nat) (S:Nat→Prop) (w:World) (hS:∀b,S b→b<w.heap.size) :
  Calls Tryz.prog 97 #[eV op a p gFirst y,.slice A 0 c] w (OutPost S (listedV gFirst a []) w):=by
 have HF:Hid (listedV gFirst a []=.val .nil):=Hd (by unfold listedV;rw[if_neg (by decide)])
 have HBad:=Hd (fun (W:World)=>bad_any op a p gFirst y hy hp W)
 obtain ⟨n0,n1,n2,n3,n4,n5,n6,n7,n8,n9,n10,rfl,h1⟩:=hy
 clear h1
 unfold eV at *
 have HB:Hid (Below w.heap.size w (w.alloc (.cells #[.string op,.int .i64 a,p,.string gFirst,n0,n1,n2,n3,n4,n5,n6,n7,n8,n9,n10] 32))):=Hd bnew
 go_enter Tryz.func97,Tryz.ntmps97
 go_wp2
 go_ret
 exact ⟨HB.out,by rw[HF.out];exact ⟨_,rfl,rfl⟩⟩
theorem listed_nil_gLast (op:ByteArray) (a:Int) (p:Value) (y:List Value) (hy:Eleven y) (hp:p.oneCell'=true) (A:Option Addr) (c:Nat) (S:Nat→Prop) (w:World) (hS:∀b,S b→b<w.heap.size) :
  Calls Tryz.prog 97 #[eV op a p gLast y,.slice A 0 c] w (OutPost S (listedV gLast a []) w):=by
 have HF:Hid (listedV gLast a []=.val .nil):=Hd (by unfold listedV;rw[if_neg (by decide)])
 have HBad:=Hd (fun (W:World)=>bad_any op a p gLast y hy hp W)
 obtain ⟨n0,n1,n2,n3,n4,n5,n6,n7,n8,n9,n10,rfl,h1⟩:=hy
 clear h1
 unfold eV at *
 have HB:Hid (Below w.heap.size w (w.alloc (.cells #[.string op,.int .i64 a,p,.string gLast,n0,n1,n2,n3,n4,n5,n6,n7,n8,n9,n10] 32))):=Hd bnew
 go_enter Tryz.func97,Tryz.ntmps97
 go_wp2
 go_ret
 exact ⟨HB.out,by rw[HF.out];exact ⟨_,rfl,rfl⟩⟩
theorem listed_nil_gLeast (op:ByteArray) (a:Int) (p:Value) (y:List Value) (hy:Eleven y) (hp:p.oneCell'=true) (A:Option Addr) (c:Nat) (S:Nat→Prop) (w:World) (hS:∀b,S b→b<w.heap.size) :
  Calls Tryz.prog 97 #[eV op a p gLeast y,.slice A 0 c] w (OutPost S (listedV gLeast a []) w):=by
 have HF:Hid (listedV gLeast a []=.val .nil):=Hd (by unfold listedV;rw[if_neg (by decide)])
 have HBad:=Hd (fun (W:World)=>bad_any op a p gLeast y hy hp W)
 obtain ⟨n0,n1,n2,n3,n4,n5,n6,n7,n8,n9,n10,rfl,h1⟩:=hy
 clear h1
 unfold eV at *
 have HB:Hid (Below w.heap.size w (w.alloc (.cells #[.string op,.int .i64 a,p,.string gLeast,n0,n1,n2,n3,n4,n5,n6,n7,n8,n9,n10] 32))):=Hd bnew
 go_enter Tryz.func97,Tryz.ntmps97
 go_wp2
 go_ret
 exact ⟨HB.out,by rw[HF.out];exact ⟨_,rfl,rfl⟩⟩
theorem listed_nil_gMost (op:ByteArray) (a:Int) (p:Value) (y:List Value) (hy:Eleven y) (hp:p.oneCell'=true) (A:Option Addr) (c:Nat) (S:Nat→Prop) (w:World) (hS:∀b,S b→b<w.heap.size) :
  Calls Tryz.prog 97 #[eV op a p gMost y,.slice A 0 c] w (OutPost S (listedV gMost a []) w):=by
 have HF:Hid (listedV gMost a []=.val .nil):=Hd (by unfold listedV;rw[if_neg (by decide)])
 have HBad:=Hd (fun (W:World)=>bad_any op a p gMost y hy hp W)
 obtain ⟨n0,n1,n2,n3,n4,n5,n6,n7,n8,n9,n10,rfl,h1⟩:=hy
 clear h1
 unfold eV at *
 have HB:Hid (Below w.heap.size w (w.alloc (.cells #[.string op,.int .i64 a,p,.string gMost,n0,n1,n2,n3,n4,n5,n6,n7,n8,n9,n10] 32))):=Hd bnew
 go_enter Tryz.func97,Tryz.ntmps97
 go_wp2
 go_ret
 exact ⟨HB.out,by rw[HF.out];exact ⟨_,rfl,rfl⟩⟩
theorem listed_first (op:ByteArray) (a:Int) (p:Value) (y:List Value) (hy:Eleven y) (hp:p.oneCell'=true) (x0:V) (r:List V) (A:Option Addr) (c:Nat) (S:Nat→Prop) (w:World) (hS:∀b,S b→b<w.heap.size) (hl:r.length+1≤1099511627776) (hr:ListS w S A (x0 :: r)) :
  Calls Tryz.prog 97 #[eV op a p gFirst y,.slice A (r.length+1:Nat) c] w (OutPost S (listedV gFirst a (x0 :: r)) w):=by
 obtain ⟨z,hz⟩:∃z,(x0 :: r)[0]?=some z:=⟨_,rfl⟩
 have HF:Hid (listedV gFirst a (x0 :: r)=.val z):=Hd (by injection hz with hz;subst hz;unfold listedV;rw[if_neg (by decide)];rfl)
 obtain ⟨b,off,v,rfl,hSb,c0,hv⟩:=hr.get hz
 have HBad:=Hd (fun (W:World)=>bad_any op a p gFirst y hy hp W)
 obtain ⟨n0,n1,n2,n3,n4,n5,n6,n7,n8,n9,n10,rfl,h1⟩:=hy
 clear h1
 unfold eV at *
 have HB:Hid (Below w.heap.size w (w.alloc (.cells #[.string op,.int .i64 a,p,.string gFirst,n0,n1,n2,n3,n4,n5,n6,n7,n8,n9,n10] 32))):=Hd bnew
 have hbl:=hS b hSb
 have HD:=Hd (RdS.more (S':=fun b=>S b∨New w (w.alloc (.cells #[.string op,.int .i64 a,p,.string gFirst,n0,n1,n2,n3,n4,n5,n6,n7,n8,n9,n10] 32)) b) (fun b h=>.inl h) _ _ (hv.to hS HB.out))
 clear hr hz hv
 simp only[Nat.add_zero]at c0
 go_enter Tryz.func97,Tryz.ntmps97
 go_wp2
 go_ret
 exact ⟨HB.out,by rw[HF.out];exact ⟨_,rfl,HD.out⟩⟩
theorem listed_last (op:ByteArray) (a:Int) (p:Value) (y:List Value) (hy:Eleven y) (hp:p.oneCell'=true) (x0:V) (r:List V) (A:Option Addr) (c:Nat) (S:Nat→Prop) (w:World) (hS:∀b,S b→b<w.heap.size) (hl:r.length+1≤1099511627776) (hr:ListS w S A (x0 :: r)) :
  Calls Tryz.prog 97 #[eV op a p gLast y,.slice A (r.length+1:Nat) c] w (OutPost S (listedV gLast a (x0 :: r)) w):=by
 obtain ⟨z,hz⟩:∃z,(x0 :: r)[r.length]?=some z:=⟨_,List.getElem?_eq_getElem (by simp)⟩
 have HF:Hid (listedV gLast a (x0 :: r)=.val z):=Hd (by
  have e:listedV gLast a (x0 :: r)=.val ((x0 :: r).getLastD .nil):=by unfold listedV;rw[if_neg (by decide)];rfl
  rw[e]
  congr 1
  rw[List.getLastD_eq_getLast?,List.getLast?_eq_getElem?]
  simp only[List.length_cons,Nat.add_sub_cancel,hz,Option.getD_some])
 have e0:wrap64 (((r.length+1:Nat):Int)-1)=r.length:=by unfold wrap64;omega
 have e0':wrap64 ((r.length:Int)+1-1)=r.length:=by unfold wrap64;omega
 obtain ⟨b,off,v,rfl,hSb,c0,hv⟩:=hr.get hz
 have HBad:=Hd (fun (W:World)=>bad_any op a p gLast y hy hp W)
 obtain ⟨n0,n1,n2,n3,n4,n5,n6,n7,n8,n9,n10,rfl,h1⟩:=hy
 clear h1
 unfold eV at *
 have HB:Hid (Below w.heap.size w (w.alloc (.cells #[.string op,.int .i64 a,p,.string gLast,n0,n1,n2,n3,n4,n5,n6,n7,n8,n9,n10] 32))):=Hd bnew
 have hbl:=hS b hSb
 have HD:=Hd (RdS.more (S':=fun b=>S b∨New w (w.alloc (.cells #[.string op,.int .i64 a,p,.string gLast,n0,n1,n2,n3,n4,n5,n6,n7,n8,n9,n10] 32)) b) (fun b h=>.inl h) _ _ (hv.to hS HB.out))
 clear hr hz hv
 go_enter Tryz.func97,Tryz.ntmps97
 go_wp2
 go_ret
 exact ⟨HB.out,by rw[HF.out];exact ⟨_,rfl,HD.out⟩⟩
theorem listed_least (op:ByteArray) (a:Int) (p:Value) (y:List Value) (hy:Eleven y) (hp:p.oneCell'=true) (x0:V) (r:List V) (A:Option Addr) (c:Nat) (S:Nat→Prop) (w:World) (hS:∀b,S b→b<w.heap.size) (hl:r.length+1≤1099511627776) (hcl:r.length+1≤c) (hr:ListS w S A (x0 :: r)) :
  Calls Tryz.prog 97 #[eV op a p gLeast y,.slice A (r.length+1:Nat) c] w (OutPost S (listedV gLeast a (x0 :: r)) w):=by
 have HU:Hid (listedV gLeast a (x0 :: r)=match lessV x0 x0 with|none=>.gone a 172|some _=>leadV a false r x0):=Hd (by unfold listedV;rw[if_neg (by decide)];rfl)
 obtain ⟨b,off,v0,rfl,hSb,c0,hv0⟩:=hr.get (k:=0) rfl
 simp only[Nat.add_zero]at c0
 have HBad:=Hd (fun (W:World)=>bad_any op a p gLeast y hy hp W)
 obtain ⟨n0,n1,n2,n3,n4,n5,n6,n7,n8,n9,n10,rfl,h1⟩:=hy
 clear h1
 unfold eV at *
 have HB:Hid (Below w.heap.size w (w.alloc (.cells #[.string op,.int .i64 a,p,.string gLeast,n0,n1,n2,n3,n4,n5,n6,n7,n8,n9,n10] 32))):=Hd bnew
 have hbl:=hS b hSb
 have hr0:=hr.to hS HB.out
 have hv1:=hv0.to hS HB.out
 have HLL:=Hd (less_any x0 x0 v0 v0 S (w.alloc (.cells #[.string op,.int .i64 a,p,.string gLeast,n0,n1,n2,n3,n4,n5,n6,n7,n8,n9,n10] 32)) hv1 hv1)
 unfold LessPost at HLL
 cases h0:lessV x0 x0 with
 | none =>
  have HF:Hid (listedV gLeast a (x0 :: r)=.gone a 172):=Hd (by rw[HU.out,h0])
  rw[h0]at HLL
  clear hr hr0 hv0 hv1 HU
  go_enter Tryz.func97,Tryz.ntmps97
  go_wp2_with fail
  refine HLL.out.mono ?_
  rintro e w1 ⟨rfl,rfl⟩
  go_wp2_with fail
  refine (HBad.out _).mono ?_
  rintro e w9 ⟨rfl,hb9⟩
  exact ⟨rfl,HB.out.trans (hb9.mono (by simp)),by rw[HF.out]⟩
 | some q0 =>
  replace HU:Hid (listedV gLeast a (x0 :: r)=leadV a false r x0):=Hd (by rw[HU.out,h0])
  rw[h0]at HLL
  by_cases hc1:c=1
  ·subst hc1
   have hrn:r=[]:=List.eq_nil_of_length_eq_zero (by omega)
   subst hrn
   replace HU:Hid (listedV gLeast a [x0]=.val x0):=Hd HU.out
   have HD:=Hd (RdS.more (S':=fun b=>S b∨New w (w.alloc (.cells #[.string op,.int .i64 a,p,.string gLeast,n0,n1,n2,n3,n4,n5,n6,n7,n8,n9,n10] 32)) b) (fun b h=>.inl h) _ _ hv1)
   clear hr hr0 hv0 hv1
   go_enter Tryz.func97,Tryz.ntmps97
   go_wp2_with fail
   refine HLL.out.mono ?_
   rintro e w1 ⟨rfl,rfl⟩
   go_wp2
   go_loopw [11,82] (fun v i wr=>i=.int .i64 0∧v=v0∧(w.alloc (.cells #[.string op,.int .i64 a,p,.string gLeast,n0,n1,n2,n3,n4,n5,n6,n7,n8,n9,n10] 32))=wr) (fun _ i _=>0)
   case atStart=>exact ⟨rfl,rfl,rfl⟩
   case round =>
    obtain ⟨rfl,rfl,rfl⟩:=hrel
    go_wp2
    go_ret
    exact ⟨HB.out,by rw[HU.out];exact ⟨_,rfl,HD.out⟩⟩
  ·clear hr hv0
   go_enter Tryz.func97,Tryz.ntmps97
   go_wp2_with fail
   refine HLL.out.mono ?_
   rintro e w1 ⟨rfl,rfl⟩
   go_wp2
   go_loopw [11,82] (fun v i wr=>∃(k:Nat) (n:V),i=.int .i64 k∧k≤r.length∧Hid (leadV a false r x0=leadV a false (r.drop k) n)∧RdS (w.alloc (.cells #[.string op,.int .i64 a,p,.string gLeast,n0,n1,n2,n3,n4,n5,n6,n7,n8,n9,n10] 32)) S n v∧(w.alloc (.cells #[.string op,.int .i64 a,p,.string gLeast,n0,n1,n2,n3,n4,n5,n6,n7,n8,n9,n10] 32))=wr) (fun _ i _=>r.length-(intOf i).toNat)
   case atStart=>exact ⟨0,x0,rfl,by omega,Hd rfl,hv1,rfl⟩
   case round =>
    clear hv1
    obtain ⟨k,n,rfl,hk,HT,hn,rfl⟩:=hrel
    by_cases hlt:k<r.length
    ·obtain ⟨x,hx⟩:∃x,r[k]?=some x:=⟨_,List.getElem?_eq_getElem hlt⟩
     obtain ⟨b',off',vx,eA,_,d0,hvx⟩:=hr0.get (k:=k+1) (x:=x) (by simpa using hx)
     injection eA with eA;injection eA with e1 e2 _;subst e1;subst e2
     rw[show off+(k+1)=off+1+k by omega]at d0
     have HLX:=Hd (less_any x n vx u11 S (w.alloc (.cells #[.string op,.int .i64 a,p,.string gLeast,n0,n1,n2,n3,n4,n5,n6,n7,n8,n9,n10] 32)) hvx hn)
     unfold LessPost at HLX
     have HD:Hid (leadV a false (r.drop k) n=match lessV x n with|none=>.gone a 172|some b=>leadV a false (r.drop (k+1)) (if b=true then x else n)):=Hd (by
      rw[List.drop_eq_getElem_cons hlt]
      rw[List.getElem?_eq_getElem hlt]at hx;injection hx with hx;rw[hx];rfl)
     cases hlx:lessV x n with
     | none =>
      have HF:Hid (listedV gLeast a (x0 :: r)=.gone a 172):=Hd (by rw[HU.out,HT.out,HD.out,hlx])
      rw[hlx]at HLX
      clear hr0 hx HT HD hn hvx HU
      go_wp2_with fail
      refine HLX.out.mono ?_
      rintro e w1 ⟨rfl,rfl⟩
      go_wp2_with fail
      refine (HBad.out _).mono ?_
      rintro e w9 ⟨rfl,hb9⟩
      exact ⟨rfl,HB.out.trans (hb9.mono (by simp)),by rw[HF.out]⟩
     | some q =>
      rw[hlx]at HLX
      cases q with
      | true =>
       have HT2:=Hd (HT.out.trans (HD.out.trans (by rw[hlx];rfl:_=leadV a false (r.drop (k+1)) x)))
       clear hr0 hx HT HD hn
       go_wp2_with fail
       refine HLX.out.mono ?_
       rintro e w1 ⟨rfl,rfl⟩
       go_wp2
       refine ⟨⟨k+1,x,rfl,hlt,HT2,hvx,trivial⟩,?_⟩
       simp[intOf];omega
      | false =>
       have HT2:=Hd (HT.out.trans (HD.out.trans (by rw[hlx];rfl:_=leadV a false (r.drop (k+1)) n)))
       clear hr0 hx HT HD hvx
       go_wp2_with fail
       refine HLX.out.mono ?_
       rintro e w1 ⟨rfl,rfl⟩
       go_wp2
       refine ⟨⟨k+1,n,rfl,hlt,HT2,hn,trivial⟩,?_⟩
       simp[intOf];omega
    ·obtain rfl:k=r.length:=by omega
     have HF:Hid (listedV gLeast a (x0 :: r)=.val n):=Hd (by rw[HU.out,HT.out,List.drop_length];rfl)
     have HD:=Hd (RdS.more (S':=fun b=>S b∨New w (w.alloc (.cells #[.string op,.int .i64 a,p,.string gLeast,n0,n1,n2,n3,n4,n5,n6,n7,n8,n9,n10] 32)) b) (fun b h=>.inl h) _ _ hn)
     clear hr0 HT hn HU
     go_wp2
     go_ret
     exact ⟨HB.out,by rw[HF.out];exact ⟨_,rfl,HD.out⟩⟩
theorem listed_most (op:ByteArray) (a:Int) (p:Value) (y:List Value) (hy:Eleven y) (hp:p.oneCell'=true) (x0:V) (r:List V) (A:Option Addr) (c:Nat) (S:Nat→Prop) (w:World) (hS:∀b,S b→b<w.heap.size) (hl:r.length+1≤1099511627776) (hcl:r.length+1≤c) (hr:ListS w S A (x0 :: r)) :
  Calls Tryz.prog 97 #[eV op a p gMost y,.slice A (r.length+1:Nat) c] w (OutPost S (listedV gMost a (x0 :: r)) w):=by
 have HU:Hid (listedV gMost a (x0 :: r)=match lessV x0 x0 with|none=>.gone a 172|some _=>leadV a true r x0):=Hd (by unfold listedV;rw[if_neg (by decide)];rfl)
 obtain ⟨b,off,v0,rfl,hSb,c0,hv0⟩:=hr.get (k:=0) rfl
 simp only[Nat.add_zero]at c0
 have HBad:=Hd (fun (W:World)=>bad_any op a p gMost y hy hp W)
 obtain ⟨n0,n1,n2,n3,n4,n5,n6,n7,n8,n9,n10,rfl,h1⟩:=hy
 clear h1
 unfold eV at *
 have HB:Hid (Below w.heap.size w (w.alloc (.cells #[.string op,.int .i64 a,p,.string gMost,n0,n1,n2,n3,n4,n5,n6,n7,n8,n9,n10] 32))):=Hd bnew
 have hbl:=hS b hSb
 have hr0:=hr.to hS HB.out
 have hv1:=hv0.to hS HB.out
 have HLL:=Hd (less_any x0 x0 v0 v0 S (w.alloc (.cells #[.string op,.int .i64 a,p,.string gMost,n0,n1,n2,n3,n4,n5,n6,n7,n8,n9,n10] 32)) hv1 hv1)
 unfold LessPost at HLL
 cases h0:lessV x0 x0 with
 | none =>
  have HF:Hid (listedV gMost a (x0 :: r)=.gone a 172):=Hd (by rw[HU.out,h0])
  rw[h0]at HLL
  clear hr hr0 hv0 hv1 HU
  go_enter Tryz.func97,Tryz.ntmps97
  go_wp2_with fail
  refine HLL.out.mono ?_
  rintro e w1 ⟨rfl,rfl⟩
  go_wp2_with fail
  refine (HBad.out _).mono ?_
  rintro e w9 ⟨rfl,hb9⟩
  exact ⟨rfl,HB.out.trans (hb9.mono (by simp)),by rw[HF.out]⟩
 | some q0 =>
  replace HU:Hid (listedV gMost a (x0 :: r)=leadV a true r x0):=Hd (by rw[HU.out,h0])
  rw[h0]at HLL
  by_cases hc1:c=1
  ·subst hc1
   have hrn:r=[]:=List.eq_nil_of_length_eq_zero (by omega)
   subst hrn
   replace HU:Hid (listedV gMost a [x0]=.val x0):=Hd HU.out
   have HD:=Hd (RdS.more (S':=fun b=>S b∨New w (w.alloc (.cells #[.string op,.int .i64 a,p,.string gMost,n0,n1,n2,n3,n4,n5,n6,n7,n8,n9,n10] 32)) b) (fun b h=>.inl h) _ _ hv1)
   clear hr hr0 hv0 hv1
   go_enter Tryz.func97,Tryz.ntmps97
   go_wp2_with fail
   refine HLL.out.mono ?_
   rintro e w1 ⟨rfl,rfl⟩
   go_wp2
   go_loopw [11,82] (fun v i wr=>i=.int .i64 0∧v=v0∧(w.alloc (.cells #[.string op,.int .i64 a,p,.string gMost,n0,n1,n2,n3,n4,n5,n6,n7,n8,n9,n10] 32))=wr) (fun _ i _=>0)
   case atStart=>exact ⟨rfl,rfl,rfl⟩
   case round =>
    obtain ⟨rfl,rfl,rfl⟩:=hrel
    go_wp2
    go_ret
    exact ⟨HB.out,by rw[HU.out];exact ⟨_,rfl,HD.out⟩⟩
  ·clear hr hv0
   go_enter Tryz.func97,Tryz.ntmps97
   go_wp2_with fail
   refine HLL.out.mono ?_
   rintro e w1 ⟨rfl,rfl⟩
   go_wp2
   go_loopw [11,82] (fun v i wr=>∃(k:Nat) (n:V),i=.int .i64 k∧k≤r.length∧Hid (leadV a true r x0=leadV a true (r.drop k) n)∧RdS (w.alloc (.cells #[.string op,.int .i64 a,p,.string gMost,n0,n1,n2,n3,n4,n5,n6,n7,n8,n9,n10] 32)) S n v∧(w.alloc (.cells #[.string op,.int .i64 a,p,.string gMost,n0,n1,n2,n3,n4,n5,n6,n7,n8,n9,n10] 32))=wr) (fun _ i _=>r.length-(intOf i).toNat)
   case atStart=>exact ⟨0,x0,rfl,by omega,Hd rfl,hv1,rfl⟩
   case round =>
    clear hv1
    obtain ⟨k,n,rfl,hk,HT,hn,rfl⟩:=hrel
    by_cases hlt:k<r.length
    ·obtain ⟨x,hx⟩:∃x,r[k]?=some x:=⟨_,List.getElem?_eq_getElem hlt⟩
     obtain ⟨b',off',vx,eA,_,d0,hvx⟩:=hr0.get (k:=k+1) (x:=x) (by simpa using hx)
     injection eA with eA;injection eA with e1 e2 _;subst e1;subst e2
     rw[show off+(k+1)=off+1+k by omega]at d0
     have HLX:=Hd (less_any n x u11 vx S (w.alloc (.cells #[.string op,.int .i64 a,p,.string gMost,n0,n1,n2,n3,n4,n5,n6,n7,n8,n9,n10] 32)) hn hvx)
     unfold LessPost at HLX
     have HD:Hid (leadV a true (r.drop k) n=match lessV n x with|none=>.gone a 172|some b=>leadV a true (r.drop (k+1)) (if b=true then x else n)):=Hd (by
      rw[List.drop_eq_getElem_cons hlt]
      rw[List.getElem?_eq_getElem hlt]at hx;injection hx with hx;rw[hx];rfl)
     cases hlx:lessV n x with
     | none =>
      have HF:Hid (listedV gMost a (x0 :: r)=.gone a 172):=Hd (by rw[HU.out,HT.out,HD.out,hlx])
      rw[hlx]at HLX
      clear hr0 hx HT HD hn hvx HU
      go_wp2_with fail
      refine HLX.out.mono ?_
      rintro e w1 ⟨rfl,rfl⟩
      go_wp2_with fail
      refine (HBad.out _).mono ?_
      rintro e w9 ⟨rfl,hb9⟩
      exact ⟨rfl,HB.out.trans (hb9.mono (by simp)),by rw[HF.out]⟩
     | some q =>
      rw[hlx]at HLX
      cases q with
      | true =>
       have HT2:=Hd (HT.out.trans (HD.out.trans (by rw[hlx];rfl:_=leadV a true (r.drop (k+1)) x)))
       clear hr0 hx HT HD hn
       go_wp2_with fail
       refine HLX.out.mono ?_
       rintro e w1 ⟨rfl,rfl⟩
       go_wp2
       refine ⟨⟨k+1,x,rfl,hlt,HT2,hvx,trivial⟩,?_⟩
       simp[intOf];omega
      | false =>
       have HT2:=Hd (HT.out.trans (HD.out.trans (by rw[hlx];rfl:_=leadV a true (r.drop (k+1)) n)))
       clear hr0 hx HT HD hvx
       go_wp2_with fail
       refine HLX.out.mono ?_
       rintro e w1 ⟨rfl,rfl⟩
       go_wp2
       refine ⟨⟨k+1,n,rfl,hlt,HT2,hn,trivial⟩,?_⟩
       simp[intOf];omega
    ·obtain rfl:k=r.length:=by omega
     have HF:Hid (listedV gMost a (x0 :: r)=.val n):=Hd (by rw[HU.out,HT.out,List.drop_length];rfl)
     have HD:=Hd (RdS.more (S':=fun b=>S b∨New w (w.alloc (.cells #[.string op,.int .i64 a,p,.string gMost,n0,n1,n2,n3,n4,n5,n6,n7,n8,n9,n10] 32)) b) (fun b h=>.inl h) _ _ hn)
     clear hr0 HT hn HU
     go_wp2
     go_ret
     exact ⟨HB.out,by rw[HF.out];exact ⟨_,rfl,HD.out⟩⟩
theorem listed_any (op:ByteArray) (a:Int) (p:Value) (y:List Value) (hy:Eleven y) (hp:p.oneCell'=true) (nm:ByteArray) (hnm:nm=gSum∨nm=gFirst∨nm=gLast∨nm=gLeast∨nm=gMost) (l:List V) (A:Option Addr) (c:Nat) (S:Nat→Prop) (w:World) (hS:∀b,S b→b<w.heap.size) (hl:l.length≤1099511627776) (hcl:l.length≤c) (hr:ListS w S A l) (hsm:∀x∈l,topSmall x) :
  Calls Tryz.prog 97 #[eV op a p nm y,.slice A l.length c] w (OutPost S (listedV nm a l) w):=by
 rcases hnm with rfl|hnm
 ·exact listed_sum op a p y hy hp l A c S w hS hl hr hsm
 cases l with
 | nil =>
  rcases hnm with rfl|rfl|rfl|rfl
  ·exact listed_nil_gFirst op a p y hy hp A c S w hS
  ·exact listed_nil_gLast op a p y hy hp A c S w hS
  ·exact listed_nil_gLeast op a p y hy hp A c S w hS
  ·exact listed_nil_gMost op a p y hy hp A c S w hS
 | cons x0 r =>
  rcases hnm with rfl|rfl|rfl|rfl
  ·exact listed_first op a p y hy hp x0 r A c S w hS hl hr
  ·exact listed_last op a p y hy hp x0 r A c S w hS hl hr
  ·exact listed_least op a p y hy hp x0 r A c S w hS hl hcl hr
  ·exact listed_most op a p y hy hp x0 r A c S w hS hl hcl hr
end Go.Proofs.YtbemeapjeipjlaaGreatDoor
