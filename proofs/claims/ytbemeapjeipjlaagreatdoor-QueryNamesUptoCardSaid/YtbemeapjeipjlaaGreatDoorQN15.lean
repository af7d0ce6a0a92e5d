/- Walks: query.joined. -/
import Derived.Test.YtbemeapjeipjlaaGreatDoorQN14
import Derived.Test.YtbemeapjeipjlaaGreatDoorQN11
set_option linter.unusedVariables false
set_option linter.unusedSimpArgs false
namespace Go.Proofs.YtbemeapjeipjlaaGreatDoor
open Go Go.RowKit
set_option maxRecDepth 100000
set_option maxHeartbeats 8000000
attribute [local go_sem] ta_no_bool ta_yes_bool ta_nil_bool ta_no_int64 ta_yes_int64 ta_nil_int64 ta_no_flt ta_yes_flt ta_nil_flt ta_no_str ta_yes_str ta_nil_str ta_no_byt ta_yes_byt ta_nil_byt ta_no_ref ta_yes_ref ta_nil_ref ta_no_lst ta_yes_lst ta_nil_lst ta_no_dct ta_yes_dct ta_nil_dct ta_no_rec ta_yes_rec ta_nil_rec
def ListS (w:World) (S:Nat→Prop) (A:Option Addr) (l:List V):Prop:=l=[]∨∃b off,A=some ⟨b,off,none⟩∧S b∧RdL w S b off l
theorem ListS.to {w W:World} {S:Nat→Prop} {A:Option Addr} {l:List V} (h:ListS w S A l) (hS:∀b,S b→b<w.heap.size) (hb:Below w.heap.size w W):ListS W S A l:=by
 refine h.imp id ?_
 rintro ⟨b,off,hA,hsb,hr⟩
 refine ⟨b,off,hA,hsb,RdL.iff.2 fun i x hi=>?_⟩
 obtain ⟨v,hv,hd⟩:=RdL.iff.1 hr i x hi
 exact ⟨v,(hb.cell (hS b hsb)).trans hv,hd.to hS hb⟩
theorem joined_list (op:ByteArray) (a:Int) (p:Value) (nm:ByteArray) (y:List Value) (hy:Eleven y) (hp:p.oneCell'=true) (x z:List V) (A1 A2:Option Addr) (c1 c2:Nat) (S:Nat→Prop) (w:World) (hS:∀b,S b→b<w.heap.size) (hx:x.length≤16384) (hz:z.length≤16384) (h1:A1=none→c1=0) (h2:A2=none→c2=0) (r1:ListS w S A1 x) (r2:ListS w S A2 z) :
  Calls Tryz.prog 103 #[eV op a p nm y,.iface 73 (.slice A1 x.length c1),.iface 73 (.slice A2 z.length c2)] w (OutPost S (joinedV a (.list x) (.list z)) w):=by
 obtain ⟨i0,hi0,hz0,hz1,hz2⟩:=info_parts Tryz.infoAny
 have HG:=Hd (fun (W:World) (hW:Below w.heap.size w W) (u:Value) (hr:RdS W (fun b=>S b∨(w.heap.size≤b∧b<W.heap.size)) (.list (x++z)) (.iface 73 u))=>good_any op a p nm y hy hp (.list (x++z)) (.iface 73 u) (fun b=>S b∨(w.heap.size≤b∧b<W.heap.size)) W (fun b h=>h.elim (fun h=>Nat.lt_of_lt_of_le (hS b h) hW.size) (fun h=>h.2)) hr)
 have HC:=Hd (fun (W:World) (hW:Below w.heap.size w W)=>clone_any x A1 c1 S W (fun b h=>Nat.lt_of_lt_of_le (hS b h) hW.size) (by omega) h1 (r1.to hS hW))
 have HF:Hid (joinedV a (.list x) (.list z)=goodV a (.list (x++z))):=Hd rfl
 have HY:=Hd (list_face r2 h2)
 clear r1 r2
 have HBad:=Hd (fun (W:World)=>bad_any op a p nm y hy hp W)
 obtain ⟨n0,n1,n2,n3,n4,n5,n6,n7,n8,n9,n10,rfl,hone⟩:=hy
 clear hone
 unfold eV at *
 have HB:Hid (Below w.heap.size w (w.alloc (.cells #[.string op,.int .i64 a,p,.string nm,n0,n1,n2,n3,n4,n5,n6,n7,n8,n9,n10] 32))):=Hd bnew
 go_enter Tryz.func103,Tryz.ntmps103
 go_wp2
 refine wp_region_heldI (fun W=>Below (w.heap.size+1) (w.alloc (.cells #[.string op,.int .i64 a,p,.string nm,n0,n1,n2,n3,n4,n5,n6,n7,n8,n9,n10] 32)) W) [0,1,3] [2,4,5,6,7] (by kernel_rfl) (by kernel_rfl) (fun _ _ _ _ _ h=>h) ?_ ?_
 ·((exact below_drewN (Below.refl _ _) 1))
 simp only[pickI,List.getElem?_cons_succ,List.getElem?_cons_zero]
 repeat (refine HdS.step (fun K hK=>?_);go_simp;first|(refine hK _ ?_;clear hK K)|(apply Exists.intro;refine ⟨fun W hW=>?_,hK _ ?_⟩;(first|(intros;rfl)|((obtain ⟨hc,hf⟩:=bcellB hW;go_simp;rfl)));clear hK K))
 refine HdS.nil ?_
 refine SeqS.step (fun K hK=>?_)
 go_simp
 go_at_call 137
 refine (HC.out _ HB.out.drew).mono ?_
 rintro e w1 ⟨u,xs,rfl,hown,hv,hb1⟩
 have hb2:Below (w.heap.size+1) (w.alloc (.cells #[.string op,.int .i64 a,p,.string nm,n0,n1,n2,n3,n4,n5,n6,n7,n8,n9,n10] 32)) w1:=(below_drewN (Below.refl _ _) 1).trans (hb1.mono (by simp))
 have hb3:=HB.out.trans (hb2.mono (by omega))
 have hz3:=hb2.size
 simp at hz3
 refine hK _ _ hb2 ?_
 clear hK K
 obtain ⟨ys,hy1,hy2⟩:=HY.out
 have hyk:=hy1.keep (fun p hp=>hb3.cell (hS _ hp))
 have hlx:=hv.1
 have hly:=hy1.1
 rcases hy2 with ⟨rfl,rfl,rfl⟩|⟨ad,rfl,hnw⟩
 ·refine SeqS.plain rfl (fun K hK=>?_)
  have hys:ys=[]:=List.eq_nil_of_length_eq_zero hly
  subst hys
  have hr:=run_append_owned_none (P:=Tryz.prog) (w:=w1) _ 73 73 20 i0 1 Tryz.underlying73 hi0 u x.length xs hown
  refine Lib.wp_append_run _ _ _ _ _ rfl _ _ rfl rfl _ _ hr ?_
  have hb4:=hb2
  have hb5:=HB.out.trans (hb4.mono (by omega))
  have hz4:=hb5.size
  have hrd:=own_read (S:=S) (l:=x++[]) (by rw[List.length_append];exact (by simpa using hown)) (hv.join hyk) (fun b h=>Nat.lt_of_lt_of_le (hS b h) (by simp)) (by have:=hb4.size;simp at this ⊢;omega) (by simp;omega)
  refine hK _ _ hb4 ?_
  clear hK K
  refine SeqS.step (fun K hK=>?_)
  go_simp
  refine hK _ _ hb4 ?_
  clear hK K
  refine SeqS.step (fun K hK=>?_)
  go_simp
  go_at_call 65
  refine (HG.out _ hb5 _ (RdS.more (fun b h=>h.imp id (fun h=>⟨by have:=h.1;first|omega|(simp at this;omega),h.2⟩)) _ _ hrd)).mono ?_
  rintro e w9 ⟨hb9,hr9⟩
  have hbb:=below_then hb5 (Nat.le_refl _) hb9
  have hs9:=hb9.size
  have hb6:=hb4.trans (hb9.mono (by have:=hb4.size;simp at this;omega))
  cases hg:goodV a (.list (x++[]))with
  | val t =>
   rw[hg]at hr9
   obtain ⟨v9,rfl,hv9⟩:=hr9
   refine hK _ _ hb6 ?_
   clear hK K
   refine SeqS.step (fun K hK=>?_)
   go_simp
   refine hK _ _ hb6 ?_
   clear hK K
   refine SeqS.nil ?_
   go_wp2
   go_ret
   exact ⟨hbb,by rw[HF.out,hg];exact ⟨v9,rfl,RdS.more (fun b h=>h.elim (fun h=>h.elim .inl (fun h=>.inr ⟨h.1,Nat.lt_of_lt_of_le h.2 hs9⟩)) (fun h=>.inr ⟨Nat.le_trans hb5.size h.1,h.2⟩)) _ _ hv9⟩⟩
  | gone b why =>
   rw[hg]at hr9
   obtain rfl:=hr9
   exact ⟨rfl,hbb,by rw[HF.out,hg]⟩
 ·refine SeqS.plain rfl (fun K hK=>?_)
  have hnw1:∀j t,ys[j]?=some t→w1.cell? (ad.add j)=some t:=fun j t hj=>(hb3.cell (World.block_lt_of_cell? w (ad.add j) (hnw j t hj))).trans (hnw j t hj)
  refine wp_append_own _ _ _ 73 rfl _ 20 i0 _ 1 16 Tryz.underlying73 hi0 hz0 hz1 hz2 rfl (by omega) u x.length xs rfl hown ad z.length c2 ys rfl (by omega) hnw1 hy1.one (by simp only[maxLen];omega) (by omega) (by simp;omega) ?_
  intro v' w2 hown2 hg2 hnil
  have hb4:=hb2.grown hg2 (by omega) (fun j hj=>by have:=(hown.lt j hj).1;simp at this;omega)
  have hb5:=HB.out.trans (hb4.mono (by omega))
  have hz4:=hb5.size
  have hrd:=own_read (S:=S) (l:=x++z) (by rw[List.length_append];exact hown2) ((hv.join hyk).keep (fun p hp=>World.cell?_of_block (hg2.block p.block (Nat.lt_of_lt_of_le (hS _ hp) hb3.size) (fun e=>by have:=(hown.lt _ e.symm).1;have:=hS _ hp;simp at *;omega)))) (fun b h=>Nat.lt_of_lt_of_le (hS b h) (by simp)) (by have:=hb4.size;simp at this ⊢;omega) (by simp;omega)
  refine hK _ _ hb4 ?_
  clear hK K
  refine SeqS.step (fun K hK=>?_)
  go_simp
  refine hK _ _ hb4 ?_
  clear hK K
  refine SeqS.step (fun K hK=>?_)
  go_simp
  go_at_call 65
  refine (HG.out _ hb5 _ (RdS.more (fun b h=>h.imp id (fun h=>⟨by have:=h.1;first|omega|(simp at this;omega),h.2⟩)) _ _ hrd)).mono ?_
  rintro e w9 ⟨hb9,hr9⟩
  have hbb:=below_then hb5 (Nat.le_refl _) hb9
  have hs9:=hb9.size
  have hb6:=hb4.trans (hb9.mono (by have:=hb4.size;simp at this;omega))
  cases hg:goodV a (.list (x++z))with
  | val t =>
   rw[hg]at hr9
   obtain ⟨v9,rfl,hv9⟩:=hr9
   refine hK _ _ hb6 ?_
   clear hK K
   refine SeqS.step (fun K hK=>?_)
   go_simp
   refine hK _ _ hb6 ?_
   clear hK K
   refine SeqS.nil ?_
   go_wp2
   go_ret
   exact ⟨hbb,by rw[HF.out,hg];exact ⟨v9,rfl,RdS.more (fun b h=>h.elim (fun h=>h.elim .inl (fun h=>.inr ⟨h.1,Nat.lt_of_lt_of_le h.2 hs9⟩)) (fun h=>.inr ⟨Nat.le_trans hb5.size h.1,h.2⟩)) _ _ hv9⟩⟩
  | gone b why =>
   rw[hg]at hr9
   obtain rfl:=hr9
   exact ⟨rfl,hbb,by rw[HF.out,hg]⟩
theorem place_high (op:ByteArray) (a:Int) (p:Value) (nm:ByteArray) (y:List Value) (hy:Eleven y) (hp:p.oneCell'=true) (l:List V) (A:Option Addr) (c:Nat) (n:Int) (S:Nat→Prop) (w:World) (hS:∀b,S b→b<w.heap.size) (hl:l.length≤1099511627776) (hr:ListS w S A l) (h0:0≤n) (h1:(l.length:Int)≤n) :
  Calls Tryz.prog 67 #[eV op a p nm y,.iface 73 (.slice A l.length c),.iface 2 (.int .i64 n)] w (OutPost S (placeV' a (.list l) (.int n)) w):=by
 have HF:Hid (placeV' a (.list l) (.int n)=.val .nil):=Hd (by
  show Out.val (placeAt l n)=_
  unfold placeAt;rw[if_neg (by omega),List.getD_eq_getElem?_getD,List.getElem?_eq_none (by omega)];rfl)
 clear hr
 have HBad:=Hd (fun (W:World)=>bad_any op a p nm y hy hp W)
 obtain ⟨n0,n1,n2,n3,n4,n5,n6,n7,n8,n9,n10,rfl,h1⟩:=hy
 clear h1
 unfold eV at *
 have HB:Hid (Below w.heap.size w (w.alloc (.cells #[.string op,.int .i64 a,p,.string nm,n0,n1,n2,n3,n4,n5,n6,n7,n8,n9,n10] 32))):=Hd bnew
 go_enter Tryz.func67,Tryz.ntmps67
 go_wp2
 go_ret
 exact ⟨HB.out,by rw[HF.out];exact ⟨_,rfl,rfl⟩⟩
theorem place_low (op:ByteArray) (a:Int) (p:Value) (nm:ByteArray) (y:List Value) (hy:Eleven y) (hp:p.oneCell'=true) (l:List V) (A:Option Addr) (c:Nat) (n:Int) (S:Nat→Prop) (w:World) (hS:∀b,S b→b<w.heap.size) (hl:l.length≤1099511627776) (hr:ListS w S A l) (h1:n+(l.length:Int)<0) (hn0:-9223372036854775808≤n) :
  Calls Tryz.prog 67 #[eV op a p nm y,.iface 73 (.slice A l.length c),.iface 2 (.int .i64 n)] w (OutPost S (placeV' a (.list l) (.int n)) w):=by
 have HF:Hid (placeV' a (.list l) (.int n)=.val .nil):=Hd (by
  show Out.val (placeAt l n)=_
  unfold placeAt;rw[if_pos (by omega),if_pos h1])
 have hn:-9223372036854775808≤n:=hn0
 have e0:wrap64 (n+(l.length:Int))=n+l.length:=by unfold wrap64;omega
 have h0:n<0:=by omega
 clear hr
 have HBad:=Hd (fun (W:World)=>bad_any op a p nm y hy hp W)
 obtain ⟨n0,n1,n2,n3,n4,n5,n6,n7,n8,n9,n10,rfl,h1⟩:=hy
 clear h1
 unfold eV at *
 have HB:Hid (Below w.heap.size w (w.alloc (.cells #[.string op,.int .i64 a,p,.string nm,n0,n1,n2,n3,n4,n5,n6,n7,n8,n9,n10] 32))):=Hd bnew
 go_enter Tryz.func67,Tryz.ntmps67
 go_wp2
 go_ret
 exact ⟨HB.out,by rw[HF.out];exact ⟨_,rfl,rfl⟩⟩
theorem place_in (op:ByteArray) (a:Int) (p:Value) (nm:ByteArray) (y:List Value) (hy:Eleven y) (hp:p.oneCell'=true) (l:List V) (A:Option Addr) (c:Nat) (k:Nat) (S:Nat→Prop) (w:World) (hS:∀b,S b→b<w.heap.size) (hl:l.length≤1099511627776) (hr:ListS w S A l) (hk:k<l.length) :
  Calls Tryz.prog 67 #[eV op a p nm y,.iface 73 (.slice A l.length c),.iface 2 (.int .i64 k)] w (OutPost S (placeV' a (.list l) (.int k)) w):=by
 have HBad:=Hd (fun (W:World)=>bad_any op a p nm y hy hp W)
 obtain ⟨n0,n1,n2,n3,n4,n5,n6,n7,n8,n9,n10,rfl,h1⟩:=hy
 clear h1
 unfold eV at *
 have HB:Hid (Below w.heap.size w (w.alloc (.cells #[.string op,.int .i64 a,p,.string nm,n0,n1,n2,n3,n4,n5,n6,n7,n8,n9,n10] 32))):=Hd bnew
 obtain ⟨z,hz⟩:∃z,l[k]?=some z:=⟨_,List.getElem?_eq_getElem hk⟩
 have HF:Hid (placeV' a (.list l) (.int k)=.val z):=Hd (by
  show Out.val (placeAt l k)=_
  unfold placeAt;rw[if_neg (by omega),List.getD_eq_getElem?_getD,show ((k:Int)).toNat=k by omega,hz];rfl)
 obtain ⟨b,off,rfl,hSb,hrl⟩:∃b off,A=some ⟨b,off,none⟩∧S b∧RdL w S b off l:=by
  rcases hr with h|h
  ·subst h;cases hz
  ·exact h
 obtain ⟨v,hv,hd⟩:=RdL.iff.1 hrl k z hz
 have hbl:=hS b hSb
 have HD:=Hd (RdS.more (S':=fun b=>S b∨New w (w.alloc (.cells #[.string op,.int .i64 a,p,.string nm,n0,n1,n2,n3,n4,n5,n6,n7,n8,n9,n10] 32)) b) (fun b h=>.inl h) _ _ (hd.to hS HB.out))
 clear hr hrl hz hd
 go_enter Tryz.func67,Tryz.ntmps67
 go_wp2
 go_ret
 exact ⟨HB.out,by rw[HF.out];exact ⟨_,rfl,HD.out⟩⟩
theorem place_back (op:ByteArray) (a:Int) (p:Value) (nm:ByteArray) (y:List Value) (hy:Eleven y) (hp:p.oneCell'=true) (l:List V) (A:Option Addr) (c:Nat) (k:Nat) (S:Nat→Prop) (w:World) (hS:∀b,S b→b<w.heap.size) (hl:l.length≤1099511627776) (hr:ListS w S A l) (hk:k<l.length) :
  Calls Tryz.prog 67 #[eV op a p nm y,.iface 73 (.slice A l.length c),.iface 2 (.int .i64 ((k:Int)-l.length))] w (OutPost S (placeV' a (.list l) (.int ((k:Int)-l.length))) w):=by
 have HBad:=Hd (fun (W:World)=>bad_any op a p nm y hy hp W)
 obtain ⟨n0,n1,n2,n3,n4,n5,n6,n7,n8,n9,n10,rfl,h1⟩:=hy
 clear h1
 unfold eV at *
 have HB:Hid (Below w.heap.size w (w.alloc (.cells #[.string op,.int .i64 a,p,.string nm,n0,n1,n2,n3,n4,n5,n6,n7,n8,n9,n10] 32))):=Hd bnew
 have e0:wrap64 ((k:Int)-l.length+l.length)=k:=by unfold wrap64;omega
 have h0:(k:Int)-l.length<0:=by omega
 obtain ⟨z,hz⟩:∃z,l[k]?=some z:=⟨_,List.getElem?_eq_getElem hk⟩
 have HF:Hid (placeV' a (.list l) (.int ((k:Int)-l.length))=.val z):=Hd (by
  show Out.val (placeAt l _)=_
  unfold placeAt;rw[if_pos h0,if_neg (by omega),List.getD_eq_getElem?_getD,show ((k:Int)-l.length+l.length).toNat=k by omega,hz];rfl)
 obtain ⟨b,off,rfl,hSb,hrl⟩:∃b off,A=some ⟨b,off,none⟩∧S b∧RdL w S b off l:=by
  rcases hr with h|h
  ·subst h;cases hz
  ·exact h
 obtain ⟨v,hv,hd⟩:=RdL.iff.1 hrl k z hz
 have hbl:=hS b hSb
 have HD:=Hd (RdS.more (S':=fun b=>S b∨New w (w.alloc (.cells #[.string op,.int .i64 a,p,.string nm,n0,n1,n2,n3,n4,n5,n6,n7,n8,n9,n10] 32)) b) (fun b h=>.inl h) _ _ (hd.to hS HB.out))
 clear hr hrl hz hd
 go_enter Tryz.func67,Tryz.ntmps67
 go_wp2
 go_ret
 exact ⟨HB.out,by rw[HF.out];exact ⟨_,rfl,HD.out⟩⟩
theorem place_bad (op:ByteArray) (a:Int) (p:Value) (nm:ByteArray) (y:List Value) (hy:Eleven y) (hp:p.oneCell'=true) (l:List V) (A:Option Addr) (c:Nat) (i:V) (vi:Value) (S:Nat→Prop) (w:World) (hS:∀b,S b→b<w.heap.size) (hi:RdS w S i vi) (hk:kindV i≠3) :
  Calls Tryz.prog 67 #[eV op a p nm y,.iface 73 (.slice A l.length c),vi] w (OutPost S (placeV' a (.list l) i) w):=by
 have HF:Hid (placeV' a (.list l) i=.gone a 172):=Hd (by cases i <;> first|rfl|exact absurd rfl hk)
 have HBad:=Hd (fun (W:World)=>bad_any op a p nm y hy hp W)
 obtain ⟨n0,n1,n2,n3,n4,n5,n6,n7,n8,n9,n10,rfl,h1⟩:=hy
 clear h1
 unfold eV at *
 have HB:Hid (Below w.heap.size w (w.alloc (.cells #[.string op,.int .i64 a,p,.string nm,n0,n1,n2,n3,n4,n5,n6,n7,n8,n9,n10] 32))):=Hd bnew
 have k0:=not_int hi 20 (w.alloc (.cells #[.string op,.int .i64 a,p,.string nm,n0,n1,n2,n3,n4,n5,n6,n7,n8,n9,n10] 32)) hk
 clear hi hk
 go_enter Tryz.func67,Tryz.ntmps67
 go_wp2_with fail
 refine (HBad.out _).mono ?_
 rintro e w9 ⟨rfl,hb9⟩
 exact ⟨rfl,HB.out.trans (hb9.mono (by simp)),by rw[HF.out]⟩
theorem place_field (op:ByteArray) (a:Int) (p:Value) (nm:ByteArray) (y:List Value) (hy:Eleven y) (hp:p.oneCell'=true) (x:V) (v:Value) (s:ByteArray) (S:Nat→Prop) (w:World) (hS:∀b,S b→b<w.heap.size) (hx:RdS w S x v) (h8:kindV x≠8) (h11:kindV x≠11) :
  Calls Tryz.prog 67 #[eV op a p nm y,v,.iface 9 (.string s)] w (OutPost S (placeV' a x (.text s)) w):=by
 have HD:=Hd (fun (W:World) (hW:Below w.heap.size w W)=>field_any op a p nm y hy hp x v s S W (fun b h=>Nat.lt_of_lt_of_le (hS b h) hW.size) h11 (hx.to hS hW))
 have HF:Hid (placeV' a x (.text s)=fieldV a x s):=Hd (by cases x <;> first|rfl|exact absurd rfl h8)
 have HBad:=Hd (fun (W:World)=>bad_any op a p nm y hy hp W)
 obtain ⟨n0,n1,n2,n3,n4,n5,n6,n7,n8,n9,n10,rfl,h1⟩:=hy
 clear h1
 unfold eV at *
 have HB:Hid (Below w.heap.size w (w.alloc (.cells #[.string op,.int .i64 a,p,.string nm,n0,n1,n2,n3,n4,n5,n6,n7,n8,n9,n10] 32))):=Hd bnew
 have k0:=not_list hx 20 (w.alloc (.cells #[.string op,.int .i64 a,p,.string nm,n0,n1,n2,n3,n4,n5,n6,n7,n8,n9,n10] 32)) h8
 clear hx h8
 go_enter Tryz.func67,Tryz.ntmps67
 go_wp2_with fail
 refine (HD.out _ HB.out).mono ?_
 rintro e w9 ⟨hb9,hr9⟩
 have hbb:=HB.out.trans (hb9.mono (by simp))
 cases hg:fieldV a x s with
 | val t =>
  rw[hg]at hr9
  obtain ⟨v9,rfl,hv9⟩:=hr9
  go_wp2
  go_ret
  exact ⟨hbb,by rw[HF.out,hg];exact ⟨v9,rfl,RdS.more (fun b h=>h.imp id (fun h=>⟨by have:=h.1;simp at this;omega,h.2⟩)) _ _ hv9⟩⟩
 | gone b why =>
  rw[hg]at hr9
  obtain rfl:=hr9
  exact ⟨rfl,hbb,by rw[HF.out,hg]⟩
theorem place_other (op:ByteArray) (a:Int) (p:Value) (nm:ByteArray) (y:List Value) (hy:Eleven y) (hp:p.oneCell'=true) (x i:V) (v vi:Value) (S:Nat→Prop) (w:World) (hS:∀b,S b→b<w.heap.size) (hx:RdS w S x v) (hi:RdS w S i vi) (h8:kindV x≠8) (h5:kindV i≠5) :
  Calls Tryz.prog 67 #[eV op a p nm y,v,vi] w (OutPost S (placeV' a x i) w):=by
 have HF:Hid (placeV' a x i=.gone a 172):=Hd (by cases x <;> first|(exact absurd rfl h8)|(cases i <;> first|rfl|exact absurd rfl h5))
 have HBad:=Hd (fun (W:World)=>bad_any op a p nm y hy hp W)
 obtain ⟨n0,n1,n2,n3,n4,n5,n6,n7,n8,n9,n10,rfl,h1⟩:=hy
 clear h1
 unfold eV at *
 have HB:Hid (Below w.heap.size w (w.alloc (.cells #[.string op,.int .i64 a,p,.string nm,n0,n1,n2,n3,n4,n5,n6,n7,n8,n9,n10] 32))):=Hd bnew
 have k0:=not_list hx 20 (w.alloc (.cells #[.string op,.int .i64 a,p,.string nm,n0,n1,n2,n3,n4,n5,n6,n7,n8,n9,n10] 32)) h8
 have k1:=not_text hi 20 (w.alloc (.cells #[.string op,.int .i64 a,p,.string nm,n0,n1,n2,n3,n4,n5,n6,n7,n8,n9,n10] 32)) h5
 clear hx hi h8 h5
 go_enter Tryz.func67,Tryz.ntmps67
 go_wp2_with fail
 refine (HBad.out _).mono ?_
 rintro e w9 ⟨rfl,hb9⟩
 exact ⟨rfl,HB.out.trans (hb9.mono (by simp)),by rw[HF.out]⟩
theorem qplace_any (op:ByteArray) (a:Int) (p:Value) (nm:ByteArray) (y:List Value) (hy:Eleven y) (hp:p.oneCell'=true) (x i:V) (vx vi:Value) (S:Nat→Prop) (w:World) (hS:∀b,S b→b<w.heap.size) (hx:RdS w S x vx) (hi:RdS w S i vi) (h11:kindV x≠11) :
  Calls Tryz.prog 67 #[eV op a p nm y,vx,vi] w (OutPost S (placeV' a x i) w):=by
 by_cases h8:kindV x=8
 ·obtain ⟨l,rfl⟩:=kind_is_list h8
  obtain ⟨A,c,rfl,hl,_,hr⟩:=hx
  by_cases h3:kindV i=3
  ·obtain ⟨n,rfl⟩:=kind_is_int h3
   obtain ⟨rfl,hn1,hn2⟩:=hi
   by_cases h0:0≤n
   ·by_cases h1:(l.length:Int)≤n
    ·exact place_high op a p nm y hy hp l A c n S w hS hl hr h0 h1
    ·obtain ⟨k,rfl⟩:=Int.eq_ofNat_of_zero_le h0
     exact place_in op a p nm y hy hp l A c k S w hS hl hr (by omega)
   ·by_cases h1:n+(l.length:Int)<0
    ·exact place_low op a p nm y hy hp l A c n S w hS hl hr h1 hn1
    ·obtain ⟨k,hk⟩:=Int.eq_ofNat_of_zero_le (show 0≤n+(l.length:Int) by omega)
     obtain rfl:n=(k:Int)-l.length:=by omega
     exact place_back op a p nm y hy hp l A c k S w hS hl hr (by omega)
  ·exact place_bad op a p nm y hy hp l A c i vi S w hS hi h3
 ·by_cases h5:kindV i=5
  ·obtain ⟨s,rfl⟩:=kind_is_text h5
   obtain ⟨rfl,_⟩:=hi
   exact place_field op a p nm y hy hp x vx s S w hS hx h8 h11
  ·exact place_other op a p nm y hy hp x i vx vi S w hS hx hi h8 h5
theorem length_any (op:ByteArray) (a:Int) (p:Value) (nm:ByteArray) (y:List Value) (hy:Eleven y) (hp:p.oneCell'=true) (x:V) (v:Value) (S:Nat→Prop) (w:World) (hS:∀b,S b→b<w.heap.size) (hx:RdS w S x v) (h11:kindV x≠11) :
  Calls Tryz.prog 96 #[eV op a p nm y,v] w (OutPost S (lengthV a x) w):=by
 have HBad:=Hd (fun (W:World)=>bad_any op a p nm y hy hp W)
 obtain ⟨n0,n1,n2,n3,n4,n5,n6,n7,n8,n9,n10,rfl,h1⟩:=hy
 clear h1
 unfold eV at *
 have HB:Hid (Below w.heap.size w (w.alloc (.cells #[.string op,.int .i64 a,p,.string nm,n0,n1,n2,n3,n4,n5,n6,n7,n8,n9,n10] 32))):=Hd bnew
 have HQ:=Hd (fun (W:World) (hW:Below w.heap.size w W)=>qfields_any x v S W h11 (hx.to hS hW))
 by_cases h5:kindV x=5
 ·obtain ⟨s,rfl⟩:=kind_is_text h5
  obtain ⟨rfl,hs⟩:=hx
  clear HQ
  go_enter Tryz.func96,Tryz.ntmps96
  go_wp2
  go_ret
  exact ⟨HB.out,_,rfl,rfl,by omega,by omega⟩
 by_cases h6:kindV x=6
 ·obtain ⟨l,rfl⟩:=kind_is_bytes h6
  obtain ⟨A,c,rfl,hl,-,-⟩:=hx
  clear HQ
  go_enter Tryz.func96,Tryz.ntmps96
  go_wp2
  go_ret
  exact ⟨HB.out,_,rfl,rfl,by omega,by omega⟩
 by_cases h8:kindV x=8
 ·obtain ⟨l,rfl⟩:=kind_is_list h8
  obtain ⟨A,c,rfl,hl,-,-⟩:=hx
  clear HQ
  go_enter Tryz.func96,Tryz.ntmps96
  go_wp2
  go_ret
  exact ⟨HB.out,_,rfl,rfl,by omega,by omega⟩
 unfold FieldsPost at HQ
 have HU:Hid (lengthV a x=match fieldsOf x with|some l=>.val (.int l.length)|none=>.gone a 172):=Hd (by cases x <;> first|rfl|exact absurd rfl h5|exact absurd rfl h6|exact absurd rfl h8)
 have k5:=not_text hx 20 (w.alloc (.cells #[.string op,.int .i64 a,p,.string nm,n0,n1,n2,n3,n4,n5,n6,n7,n8,n9,n10] 32)) h5
 have k6:=not_bytes hx 20 (w.alloc (.cells #[.string op,.int .i64 a,p,.string nm,n0,n1,n2,n3,n4,n5,n6,n7,n8,n9,n10] 32)) h6
 have k8:=not_list hx 20 (w.alloc (.cells #[.string op,.int .i64 a,p,.string nm,n0,n1,n2,n3,n4,n5,n6,n7,n8,n9,n10] 32)) h8
 clear hx h5 h6 h8 h11
 cases hf:fieldsOf x with
 | none =>
  have HF:Hid (lengthV a x=.gone a 172):=Hd (by rw[HU.out,hf])
  rw[hf]at HQ
  clear HU
  go_enter Tryz.func96,Tryz.ntmps96
  go_wp2_with fail
  refine (HQ.out _ HB.out).mono ?_
  rintro e w1 ⟨rfl,rfl⟩
  go_wp2_with fail
  refine (HBad.out _).mono ?_
  rintro e w9 ⟨rfl,hb9⟩
  exact ⟨rfl,HB.out.trans (hb9.mono (by simp)),by rw[HF.out]⟩
 | some l =>
  have HF:Hid (lengthV a x=.val (.int l.length)):=Hd (by rw[HU.out,hf])
  rw[hf]at HQ
  clear HU
  go_enter Tryz.func96,Tryz.ntmps96
  go_wp2_with fail
  refine (HQ.out _ HB.out).mono ?_
  rintro e w1 ⟨rfl,A,c,rfl,hl,hD⟩
  go_wp2
  go_ret
  exact ⟨HB.out,by rw[HF.out];exact ⟨_,rfl,rfl,by omega,by omega⟩⟩
theorem ListS.get {w:World} {S:Nat→Prop} {A:Option Addr} {l:List V} (h:ListS w S A l) {k:Nat} {x:V} (hx:l[k]?=some x) :
  ∃b off v,A=some ⟨b,off,none⟩∧S b∧w.cell? ⟨b,off+k,none⟩=some v∧RdS w S x v:=by
 rcases h with h|⟨b,off,h1,h2,h3⟩
 ·subst h;cases hx
 ·obtain ⟨v,hv,hr⟩:=RdL.iff.1 h3 k x hx
  exact ⟨b,off,v,h1,h2,hv,hr⟩
theorem within1_any (x z:V) (vx vz:Value) (ba:Nat) (S:Nat→Prop) (w:World) (hS:∀b,S b→b<w.heap.size) (hba:ba<w.heap.size) (hx:RdS w S x vx) (hz:RdS w S z vz) (q0:w.cell? ⟨ba,0,none⟩=some vx) :
  Calls Tryz.prog 99 #[vz,.pointer (some ⟨ba,0,none⟩)] w (BoolPost (equalV x z) w):=by
 have HE:=Hd (equal_any x z vx vz S w hS hx hz)
 have o1:=hx.one
 clear hx hz
 go_enter Tryz.func99,Tryz.ntmps99
 go_wp2_with fail
 refine HE.out.mono ?_
 rintro e w1 ⟨rfl,hb1⟩
 go_wp2
 go_ret
 exact ⟨rfl,hb1⟩
def IndexPost (r:Bool) (w:World) (e:Ending) (w':World):Prop:=∃k:Int,e=.returned (.int .i64 k)∧decide (0≤k)=r∧Below w.heap.size w w'
theorem index_any (x:V) (vx:Value) (ba:Nat) (l:List V) (A:Option Addr) (c:Nat) (S:Nat→Prop) (w:World) (hS:∀b,S b→b<w.heap.size) (hba:ba<w.heap.size) (hl:l.length≤1099511627776) (hx:RdS w S x vx) (hr:ListS w S A l) (q0:w.cell? ⟨ba,0,none⟩=some vx) :
  Calls Tryz.prog 133 #[.slice A l.length c,.func (.func 99) #[] #[.pointer (some ⟨ba,0,none⟩)]] w (IndexPost (l.any fun z=>equalV x z) w):=by
 go_enter Tryz.func133,Tryz.ntmps133
 go_wp2
 go_loopw [8] (fun i wr=>∃k:Nat,i=.int .i64 k∧k≤l.length∧Hid ((l.any fun z=>equalV x z)=(l.drop k).any fun z=>equalV x z)∧Below w.heap.size w wr) (fun i _=>l.length-(intOf i).toNat)
 case atStart=>exact ⟨0,rfl,by omega,Hd rfl,Below.refl _ _⟩
 case round =>
  obtain ⟨k,rfl,hk,HT,hb⟩:=hrel
  have hz:=hb.size
  by_cases hlt:k<l.length
  ·obtain ⟨z,hz0⟩:∃z,l[k]?=some z:=⟨_,List.getElem?_eq_getElem hlt⟩
   obtain ⟨b,off,v,rfl,hSb,c0,hv⟩:=hr.get hz0
   have d0:=(hb.cell (p:=⟨b,off+k,none⟩) (hS b hSb)).trans c0
   have HC:=Hd (within1_any x z vx v ba S wr (fun b h=>Nat.lt_of_lt_of_le (hS b h) hz) (by omega) (hx.to hS hb) (hv.to hS hb) ((hb.cell (p:=⟨ba,0,none⟩) hba).trans q0))
   have o1:=hv.one
   have HU:Hid ((l.any fun z=>equalV x z)=(equalV x z || (l.drop (k+1)).any fun z=>equalV x z)):=Hd (by
    rw[HT.out,List.drop_eq_getElem_cons hlt,List.any_cons]
    rw[List.getElem?_eq_getElem hlt]at hz0;injection hz0 with hz0;rw[hz0])
   clear hr hz0 hv HT c0
   generalize equalV x z=q at *
   cases q
   ·replace HU:Hid ((l.any fun z=>equalV x z)=(l.drop (k+1)).any fun z=>equalV x z):=Hd (by rw[HU.out];rfl)
    go_wp2_with fail
    refine HC.out.mono ?_
    rintro e w1 ⟨rfl,hb1⟩
    go_wp2
    refine ⟨⟨k+1,rfl,hlt,HU,hb.trans (hb1.mono hz)⟩,?_⟩
    simp[intOf];omega
   ·replace HU:Hid ((l.any fun z=>equalV x z)=true):=Hd (by rw[HU.out];rfl)
    go_wp2_with fail
    refine HC.out.mono ?_
    rintro e w1 ⟨rfl,hb1⟩
    go_wp2
    go_ret
    exact ⟨k,rfl,by rw[HU.out];simp,hb.trans (hb1.mono hz)⟩
  ·obtain rfl:k=l.length:=by omega
   have HU:Hid ((l.any fun z=>equalV x z)=false):=Hd (by rw[HT.out,List.drop_length];rfl)
   clear hr HT
   go_wp2
   go_ret
   exact ⟨-1,rfl,by rw[HU.out];rfl,hb⟩
theorem contains_any (x:V) (vx:Value) (ba:Nat) (l:List V) (A:Option Addr) (c:Nat) (S:Nat→Prop) (w:World) (hS:∀b,S b→b<w.heap.size) (hba:ba<w.heap.size) (hl:l.length≤1099511627776) (hx:RdS w S x vx) (hr:ListS w S A l) (q0:w.cell? ⟨ba,0,none⟩=some vx) :
  Calls Tryz.prog 98 #[.slice A l.length c,.func (.func 99) #[] #[.pointer (some ⟨ba,0,none⟩)]] w (BoolPost (l.any fun z=>equalV x z) w):=by
 have HI:=Hd (index_any x vx ba l A c S w hS hba hl hx hr q0)
 unfold IndexPost at HI
 clear hr hx
 go_enter Tryz.func98,Tryz.ntmps98
 go_wp2_with fail
 refine HI.out.mono ?_
 rintro e w1 ⟨k,rfl,hk,hb1⟩
 have HK:=Hd hk
 clear hk
 go_wp2
 go_ret
 exact ⟨ret_bool HK.out,hb1⟩
theorem within_list (op:ByteArray) (a:Int) (p:Value) (nm:ByteArray) (y:List Value) (hy:Eleven y) (hp:p.oneCell'=true) (x:V) (vx:Value) (l:List V) (A:Option Addr) (c:Nat) (S:Nat→Prop) (w:World) (hS:∀b,S b→b<w.heap.size) (hl:l.length≤1099511627776) (hx:RdS w S x vx) (hr:ListS w S A l) :
  Calls Tryz.prog 68 #[eV op a p nm y,vx,.iface 73 (.slice A l.length c)] w (OutPost S (withinV a x (.list l)) w):=by
 have o1:=hx.one
 have HF:Hid (withinV a x (.list l)=.val (.bool (l.any fun z=>equalV x z))):=Hd rfl
 have HBad:=Hd (fun (W:World)=>bad_any op a p nm y hy hp W)
 obtain ⟨n0,n1,n2,n3,n4,n5,n6,n7,n8,n9,n10,rfl,h1⟩:=hy
 clear h1
 unfold eV at *
 have HB:Hid (Below w.heap.size w (w.alloc (.cells #[.string op,.int .i64 a,p,.string nm,n0,n1,n2,n3,n4,n5,n6,n7,n8,n9,n10] 32))):=Hd bnew
 have HB2:Hid (Below w.heap.size w ((w.alloc (.cells #[.string op,.int .i64 a,p,.string nm,n0,n1,n2,n3,n4,n5,n6,n7,n8,n9,n10] 32)).alloc (.cells #[vx] 20))):=Hd (HB.out.alloc (by simp) _)
 have hmf:∀(fn:Fn) (first cap:Array Value) (W:World),(Instr.makeFunc fn first cap).run Tryz.prog W=.ok (.func fn first cap) W:=fun _ _ _ _=>rfl
 have HC:=Hd (contains_any x vx (w.heap.size+1) l A c S ((w.alloc (.cells #[.string op,.int .i64 a,p,.string nm,n0,n1,n2,n3,n4,n5,n6,n7,n8,n9,n10] 32)).alloc (.cells #[vx] 20)) (fun b h=>Nat.lt_of_lt_of_le (hS b h) HB2.out.size) (by simp) hl (hx.to hS HB2.out) (hr.to hS HB2.out) (by simp[go_sem]))
 clear hx hr hS
 generalize (l.any fun z=>equalV x z)=r at *
 go_enter Tryz.func68,Tryz.ntmps68
 go_wp2_with fail
 refine HC.out.mono ?_
 rintro e w1 ⟨rfl,hb1⟩
 go_wp2
 go_ret
 exact ⟨HB2.out.trans (hb1.mono (by simp;omega)),by rw[HF.out];exact ⟨_,rfl,rfl⟩⟩
theorem withinV_no {a:Int} {x z:V} (h8:kindV z≠8):withinV a x z=match fieldsOf z,x with
  | some l,.text s=>.val (.bool (underV l s).isSome)
  | _,_=>.gone a 172:=by
 cases z <;> first|rfl|exact absurd rfl h8
theorem within_other (op:ByteArray) (a:Int) (p:Value) (nm:ByteArray) (y:List Value) (hy:Eleven y) (hp:p.oneCell'=true) (x z:V) (vx vz:Value) (S:Nat→Prop) (w:World) (hS:∀b,S b→b<w.heap.size) (hx:RdS w S x vx) (hz:RdS w S z vz) (h8:kindV z≠8) (h11:kindV z≠11) (hx5:kindV x≠5) :
  Calls Tryz.prog 68 #[eV op a p nm y,vx,vz] w (OutPost S (withinV a x z) w):=by
 have o1:=hx.one
 have HF:Hid (withinV a x z=.gone a 172):=Hd (by rw[withinV_no h8];cases hf:fieldsOf z <;> cases x <;> first|rfl|exact absurd rfl hx5)
 have HBad:=Hd (fun (W:World)=>bad_any op a p nm y hy hp W)
 obtain ⟨n0,n1,n2,n3,n4,n5,n6,n7,n8,n9,n10,rfl,h1⟩:=hy
 clear h1
 unfold eV at *
 have HB:Hid (Below w.heap.size w (w.alloc (.cells #[.string op,.int .i64 a,p,.string nm,n0,n1,n2,n3,n4,n5,n6,n7,n8,n9,n10] 32))):=Hd bnew
 have HB2:Hid (Below w.heap.size w ((w.alloc (.cells #[.string op,.int .i64 a,p,.string nm,n0,n1,n2,n3,n4,n5,n6,n7,n8,n9,n10] 32)).alloc (.cells #[vx] 20))):=Hd (HB.out.alloc (by simp) _)
 have hmf:∀(fn:Fn) (first cap:Array Value) (W:World),(Instr.makeFunc fn first cap).run Tryz.prog W=.ok (.func fn first cap) W:=fun _ _ _ _=>rfl
 have HQ:=Hd (qfields_any z vz S ((w.alloc (.cells #[.string op,.int .i64 a,p,.string nm,n0,n1,n2,n3,n4,n5,n6,n7,n8,n9,n10] 32)).alloc (.cells #[vx] 20)) h11 (hz.to hS HB2.out))
 have k0:=fun (W:World)=>not_list hz 20 W h8
 have k1:=fun (W:World)=>not_text hx 20 W hx5
 clear hx hz h8 h11 hx5 hS
 unfold FieldsPost at HQ
 cases hf:fieldsOf z with
 | none =>
  rw[hf]at HQ
  go_enter Tryz.func68,Tryz.ntmps68
  go_wp2_with fail
  refine HQ.out.mono ?_
  rintro e w1 ⟨rfl,rfl⟩
  go_wp2_with fail
  refine (HBad.out _).mono ?_
  rintro e w9 ⟨rfl,hb9⟩
  exact ⟨rfl,HB2.out.trans (hb9.mono (by simp;omega)),by rw[HF.out]⟩
 | some l =>
  rw[hf]at HQ
  go_enter Tryz.func68,Tryz.ntmps68
  go_wp2_with fail
  refine HQ.out.mono ?_
  rintro e w1 ⟨rfl,A,c,rfl,hl,hD⟩
  go_wp2_with fail
  refine (HBad.out _).mono ?_
  rintro e w9 ⟨rfl,hb9⟩
  exact ⟨rfl,HB2.out.trans (hb9.mono (by simp;omega)),by rw[HF.out]⟩
theorem within_text (op:ByteArray) (a:Int) (p:Value) (nm:ByteArray) (y:List Value) (hy:Eleven y) (hp:p.oneCell'=true) (s:ByteArray) (z:V) (vz:Value) (S:Nat→Prop) (w:World) (hS:∀b,S b→b<w.heap.size) (hz:RdS w S z vz) (hs:s.size≤140737488351232) (h8:kindV z≠8) (h11:kindV z≠11) :
  Calls Tryz.prog 68 #[eV op a p nm y,.iface 9 (.string s),vz] w (OutPost S (withinV a (.text s) z) w):=by
 have HX:=Hd (withinV_no (a:=a) (x:=.text s) h8)
 have HBad:=Hd (fun (W:World)=>bad_any op a p nm y hy hp W)
 obtain ⟨n0,n1,n2,n3,n4,n5,n6,n7,n8,n9,n10,rfl,h1⟩:=hy
 clear h1
 unfold eV at *
 have HB:Hid (Below w.heap.size w (w.alloc (.cells #[.string op,.int .i64 a,p,.string nm,n0,n1,n2,n3,n4,n5,n6,n7,n8,n9,n10] 32))):=Hd bnew
 have HB2:Hid (Below w.heap.size w ((w.alloc (.cells #[.string op,.int .i64 a,p,.string nm,n0,n1,n2,n3,n4,n5,n6,n7,n8,n9,n10] 32)).alloc (.cells #[.iface 9 (.string s)] 20))):=Hd (HB.out.alloc (by simp) _)
 have hmf:∀(fn:Fn) (first cap:Array Value) (W:World),(Instr.makeFunc fn first cap).run Tryz.prog W=.ok (.func fn first cap) W:=fun _ _ _ _=>rfl
 have HQ:=Hd (qfields_any z vz S ((w.alloc (.cells #[.string op,.int .i64 a,p,.string nm,n0,n1,n2,n3,n4,n5,n6,n7,n8,n9,n10] 32)).alloc (.cells #[.iface 9 (.string s)] 20)) h11 (hz.to hS HB2.out))
 have k0:=fun (W:World)=>not_list hz 20 W h8
 clear hz h8 h11
 unfold FieldsPost at HQ
 cases hf:fieldsOf z with
 | none =>
  have HF:Hid (withinV a (.text s) z=.gone a 172):=Hd (by rw[HX.out,hf])
  rw[hf]at HQ
  clear HX
  go_enter Tryz.func68,Tryz.ntmps68
  go_wp2_with fail
  refine HQ.out.mono ?_
  rintro e w1 ⟨rfl,rfl⟩
  go_wp2_with fail
  refine (HBad.out _).mono ?_
  rintro e w9 ⟨rfl,hb9⟩
  exact ⟨rfl,HB2.out.trans (hb9.mono (by simp;omega)),by rw[HF.out]⟩
 | some l =>
  have HF:Hid (withinV a (.text s) z=.val (.bool (underV l s).isSome)):=Hd (by rw[HX.out,hf])
  rw[hf]at HQ
  clear HX
  have HU:=Hd (fun (A:Option Addr) (c:Nat) (hl:l.length≤1099511627776) hD=>under_any l A c s S ((w.alloc (.cells #[.string op,.int .i64 a,p,.string nm,n0,n1,n2,n3,n4,n5,n6,n7,n8,n9,n10] 32)).alloc (.cells #[.iface 9 (.string s)] 20)) (fun b h=>Nat.lt_of_lt_of_le (hS b h) HB2.out.size) hl hD)
  unfold UnderPost at HU
  cases hu:underV l s with
  | none =>
   rw[hu]at HU HF
   clear hu
   go_enter Tryz.func68,Tryz.ntmps68
   go_wp2_with fail
   refine HQ.out.mono ?_
   rintro e w1 ⟨rfl,A,c,rfl,hl,hD⟩
   go_wp2_with fail
   refine (HU.out A c hl hD).mono ?_
   rintro e w2 ⟨hb1,rfl⟩
   go_wp2
   go_ret
   exact ⟨HB2.out.trans (hb1.mono (by simp;omega)),by rw[HF.out];exact ⟨_,rfl,rfl⟩⟩
  | some t =>
   rw[hu]at HU HF
   clear hu
   go_enter Tryz.func68,Tryz.ntmps68
   go_wp2_with fail
   refine HQ.out.mono ?_
   rintro e w1 ⟨rfl,A,c,rfl,hl,hD⟩
   go_wp2_with fail
   refine (HU.out A c hl hD).mono ?_
   rintro e w2 ⟨hb1,u,rfl,hr⟩
   go_wp2
   go_ret
   exact ⟨HB2.out.trans (hb1.mono (by simp;omega)),by rw[HF.out];exact ⟨_,rfl,rfl⟩⟩
theorem qwithin_any (op:ByteArray) (a:Int) (p:Value) (nm:ByteArray) (y:List Value) (hy:Eleven y) (hp:p.oneCell'=true) (x z:V) (vx vz:Value) (S:Nat→Prop) (w:World) (hS:∀b,S b→b<w.heap.size) (hx:RdS w S x vx) (hz:RdS w S z vz) (h11:kindV z≠11) :
  Calls Tryz.prog 68 #[eV op a p nm y,vx,vz] w (OutPost S (withinV a x z) w):=by
 by_cases h8:kindV z=8
 ·obtain ⟨l,rfl⟩:=kind_is_list h8
  obtain ⟨A,c,rfl,hl,_,hr⟩:=hz
  exact within_list op a p nm y hy hp x vx l A c S w hS hl hx hr
 by_cases h5:kindV x=5
 ·obtain ⟨s,rfl⟩:=kind_is_text h5
  obtain ⟨rfl,hs⟩:=hx
  exact within_text op a p nm y hy hp s z vz S w hS hz hs h8 h11
 ·exact within_other op a p nm y hy hp x z vx vz S w hS hx hz h8 h11 h5
end Go.Proofs.YtbemeapjeipjlaaGreatDoor
