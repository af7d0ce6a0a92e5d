/- Walks: query.walk.call: keys, has. -/
import Derived.Test.YtbemeapjeipjlaaGreatDoorQN19
set_option linter.unusedVariables false
set_option linter.unusedSimpArgs false
namespace Go.Proofs.YtbemeapjeipjlaaGreatDoor
open Go Go.RowKit
set_option maxRecDepth 100000
set_option maxHeartbeats 8000000
attribute [local go_sem] ta_no_bool ta_yes_bool ta_nil_bool ta_no_int64 ta_yes_int64 ta_nil_int64 ta_no_flt ta_yes_flt ta_nil_flt ta_no_str ta_yes_str ta_nil_str ta_no_byt ta_yes_byt ta_nil_byt ta_no_ref ta_yes_ref ta_nil_ref ta_no_lst ta_yes_lst ta_nil_lst ta_no_dct ta_yes_dct ta_nil_dct ta_no_rec ta_yes_rec ta_nil_rec
theorem namesOf_take {l:List (ByteArray×V)} {k:Nat} {p:ByteArray×V} (hp:l[k]?=some p):(l.take (k+1)).map (fun p=>V.text p.1)=(l.take k).map (fun p=>V.text p.1)++[.text p.1]:=by
 rw[List.take_add_one,hp];simp
theorem call_keys (a:Int) (p0:Ex) (A:Option Addr) (c:Nat) (y:List Value) (hy:Eleven y) (ih0:AskC p0) (v:V) (vv:Value) (n:Nat) (S:Nat→Prop) (w:World) (bw:Nat)
  (hS:Seen S w bw) (hbw:bw<w.heap.size) (hn:n≤1048576) (hp:PartsS w S A [p0]) (hv:RdS w S v vv) (ht:tameV v) (hw:Words w S 1 kindWords) (hh:Hold w bw 0 (.int .i64 n)) :
  Calls Tryz.prog 66 #[.pointer (some ⟨bw,0,none⟩),eV oCall a (.slice A 1 c) gKeys y,vv] w (AskPost S bw (callA gKeys a (askL [p0]) v n) w):=by
 have HBad:=Hd (fun (W:World)=>bad_any oCall a (.slice A 1 c) gKeys y hy rfl W)
 have HGood:=Hd (fun (x:V) (u:Value) (S':Nat→Prop) (W:World)=>good_any oCall a (.slice A 1 c) gKeys y hy rfl x u S' W)
 obtain ⟨n0,n1,n2,n3,n4,n5,n6,n7,n8,n9,n10,rfl,h1⟩:=hy
 clear h1
 unfold eV at *
 have HB:Hid (Below w.heap.size w (w.alloc (.cells #[.string oCall,.int .i64 a,.slice A 1 c,.string gKeys,n0,n1,n2,n3,n4,n5,n6,n7,n8,n9,n10] 32))):=Hd bnew
 have HA0:Hid (Aside bw w (w.alloc (.cells #[.string oCall,.int .i64 a,.slice A 1 c,.string gKeys,n0,n1,n2,n3,n4,n5,n6,n7,n8,n9,n10] 32))):=Hd (Aside.of_below HB.out)
 obtain ⟨bp,offp,xs,eA,hSb,c0,hxs⟩:=hp.get (k:=0) (x:=p0) rfl
 subst eA
 rw[Nat.zero_mul,Nat.add_zero]at c0
 have c1:=c0.keep (fun p hp=>HB.out.cell (by rw[hp];exact (hS bp hSb).1))
 have HC:=Hd (ih0 xs v vv n S _ bw (hS.to HB.out.size) (Nat.lt_of_lt_of_le hbw HB.out.size) hn (hxs.aside hS HA0.out) (hv.aside hS HA0.out) ht (hw.aside hS HA0.out) (hh.below HB.out hbw))
 have HCnt:=Hd (ask_count p0 v n hn)
 have HTm:=Hd (ask_tame p0 v n ht)
 have HU:Hid (callA gKeys a (askL [p0]) v n=bindA (askV p0 v n) fun x m=>(keysV a x,m)):=Hd (by unfold callA;refine congrArg (bindA _) ?_;funext x m;rfl)
 have hne:w.heap.size≠bw:=by omega
 clear ih0 hp hh c0
 generalize askV p0 v n=q at *
 obtain ⟨op',a',l',nm',t'⟩:=p0
 obtain ⟨A',c',y',rfl,-,-,-,hty,-⟩:=hxs
 obtain ⟨m0,m1,m2,m3,m4,m5,m6,m7,m8,m9,m10,rfl,h1c⟩:=hty.elevenS
 unfold termOf at HC
 obtain ⟨q0,q1,q2,q3,q4,q5,q6,q7,q8,q9,q10,q11,q12,q13,q14⟩:=lie15 c1
 clear hty h1c c1
 obtain ⟨ou,m'⟩:=q
 go_enter Tryz.func66,Tryz.ntmps66
 cases ou with
 | gone ga gw =>
  go_wp2_with fail
  refine HC.out.mono ?_
  rintro e w1 ⟨hA2,hH2,rfl⟩
  exact ⟨rfl,AskPost.gone_ (by rw[HU.out];rfl) (HA0.out.trans hA2) hH2⟩
 | val u =>
  have hm2:m'≤1048576:=HCnt.out u rfl
  have hut:tameV u:=HTm.out u rfl
  have HU2:=Hd (HU.out.trans rfl)
  clear HCnt HTm HU
  go_wp2_with fail
  refine HC.out.mono ?_
  rintro e w1 ⟨hA2,hH2,uv,rfl,huv⟩
  have hA3:=HA0.out.trans hA2
  have hz3:=hA3.size
  have hz4:w.heap.size+1≤w1.heap.size:=by have:=hA2.size;simp at this;omega
  have hS1:Seen (fun b=>S b∨New (w.alloc (.cells #[.string oCall,.int .i64 a,.slice (some ⟨bp,offp,none⟩) 1 c,.string gKeys,n0,n1,n2,n3,n4,n5,n6,n7,n8,n9,n10] 32)) w1 b) w1 bw:=(hS.to HB.out.size).more (Nat.lt_of_lt_of_le hbw HB.out.size) hA2.size
  have hSN:∀b,(S b∨New (w.alloc (.cells #[.string oCall,.int .i64 a,.slice (some ⟨bp,offp,none⟩) 1 c,.string gKeys,n0,n1,n2,n3,n4,n5,n6,n7,n8,n9,n10] 32)) w1 b)→S b∨New w w1 b:=fun b h=>h.imp id (fun h=>⟨Nat.le_trans HB.out.size h.1,h.2⟩)
  have hbw1:bw<w1.heap.size:=by omega
  have qe:=fun (o:Nat)=>hA2.cell (p:=⟨w.heap.size,o,none⟩) (by simp) hne
  have HTu:=Hd (turns_gKeys w1)
  go_wp2_with fail
  refine HTu.out.mono ?_
  rintro e w2 ⟨rfl,rfl⟩
  have HQ:=Hd (qfields_any u uv _ w1 (tame_kind hut) huv)
  unfold FieldsPost at HQ
  cases hf:fieldsOf u with
  | none =>
   rw[hf]at HQ
   go_wp2_with fail
   refine HQ.out.mono ?_
   rintro e w3 ⟨rfl,rfl⟩
   go_wp2_with fail
   refine (HBad.out _).mono ?_
   rintro e w9 ⟨rfl,hb9⟩
   exact ⟨rfl,AskPost.gone_ (by rw[HU2.out];show (keysV a u,m')=_;unfold keysV;rw[hf]) (hA3.trans (Aside.of_below hb9)) (hH2.below hb9 hbw1)⟩
  | some l =>
   rw[hf]at HQ
   have HK:Hid (callA gKeys a (askL [.mk op' a' l' nm' t']) v n=(goodV a (.list (l.map fun p=>.text p.1)),m')):=Hd (HU2.out.trans (by show (keysV a u,m')=_;unfold keysV;rw[hf]))
   obtain ⟨i0,hi0,hz0,hz1,hz2⟩:=info_parts Tryz.infoAny
   go_wp2_with fail
   refine HQ.out.mono ?_
   rintro e w3 ⟨rfl,Al,cl,rfl,hll,hD⟩
   go_wp2
   have hO0:=OwnV.empty (fun _=>False) w1 w1.heap.size (Nat.le_refl _)
   go_loopw [12,76] (fun s i wr=>∃k:Nat,i=.int .i64 k∧k≤l.length∧Below w1.heap.size w1 wr∧OwnV (fun _=>False) wr w1.heap.size s ((l.take k).map fun p=>.text p.1)) (fun _ i _=>l.length-(intOf i).toNat)
   case atStart=>exact ⟨0,rfl,by omega,bnew,by simpa using hO0⟩
   case round =>
    clear hO0
    obtain ⟨k,rfl,hk,hb,hO⟩:=hrel
    have hz:=hb.size
    have qe':=fun (o:Nat)=>(hb.cell (p:=⟨w.heap.size,o,none⟩) (by show w.heap.size<w1.heap.size;omega)).trans (qe o)
    have hlen:((l.take k).map fun p=>V.text p.1).length=k:=by simp;omega
    obtain ⟨Ao,co,eform⟩:=hO.form
    rw[hlen]at eform
    subst eform
    by_cases hlt:k<l.length
    ·obtain ⟨p,hp'⟩:∃p,l[k]?=some p:=⟨_,List.getElem?_eq_getElem hlt⟩
     obtain ⟨b,off,fv,rfl,hSf,d0,hps,d1,hfv⟩:=hD.get hp'
     have hlb:b<w1.heap.size:=(hS1 b hSf).1
     replace d0:=(hb.cell (p:=⟨b,off+k*2,none⟩) hlb).trans d0
     replace d1:=(hb.cell (p:=⟨b,off+k*2+1,none⟩) hlb).trans d1
     have hst:=fun W a m=>run_store Tryz.prog W a fv m hfv.one
     have HTk:=Hd (namesOf_take hp')
     have hb2:Below wr.heap.size wr (wr.alloc (.cells #[.string p.1,fv] 44)):=bnew
     have hb3:Below wr.heap.size wr ((wr.alloc (.cells #[.string p.1,fv] 44)).alloc (.cells #[.iface 9 (.string p.1)] 20)):=hb2.alloc (by simp) _
     have hb4:=hb.trans (hb3.mono hz)
     have hO3:=hO.below hb3
     obtain ⟨zs,hown,hzs⟩:=hO3
     rw[hlen]at hown
     have hz4:w1.heap.size≤((wr.alloc (.cells #[.string p.1,fv] 44)).alloc (.cells #[.iface 9 (.string p.1)] 20)).heap.size:=hb4.size
     clear hD hp' hfv hO
     go_wp2_with (at_builtin;go_must (refine wpList_append_lies _ rfl (.tmp 80) (.tmp 84) 73 rfl w1.heap.size 20 i0 _ 1 16 Tryz.underlying73 hi0 hz0 hz1 hz2 rfl (by omega) (.slice Ao k co) k zs rfl hown ⟨wr.heap.size+1,0,none⟩ 1 1 [_] rfl rfl (news_at (by simp)) (one_of1 rfl) (by omega) (by simp only[maxLen];omega) (by omega) hz4 _ rfl ?_);intro g cap w2 hown2 hg2 hat hlt2)
     have hO5:=OwnV.snoc (y:=.text p.1) hlen hown hzs ⟨rfl,hps⟩ hown2 hg2 hat
     refine ⟨⟨k+1,rfl,hlt,hb4.grown hg2 hz4 (fun j hj=>(hown.lt j hj).1),by rw[HTk.out];exact hO5⟩,?_⟩
     simp[intOf];omega
    ·obtain rfl:k=l.length:=by omega
     rw[List.take_length]at hO
     have hR:=hO.read (by simp;omega)
     have HG:=Hd (HGood.out (.list (l.map fun p=>.text p.1)) (.iface 73 (.slice Ao l.length co)) _ wr (fun b hb=>hb.2) hR)
     clear hD hO hR
     go_wp2_with fail
     refine HG.out.mono ?_
     rintro e w9 hr9
     have hA4:=hA3.trans (Aside.of_below hb)
     have hH4:=hH2.below hb hbw1
     have hP:=AskPost.out (n:=m') (S:=S) hr9 hA4 (fun b h=>.inr ⟨h.1.elim (fun h=>h.elim) (fun h=>Nat.le_trans hz3 h),h.2⟩) (Nat.lt_of_lt_of_le hbw1 hz) hH4
     replace hP:=AskPost.eq_ HK.out hP
     cases hg:goodV a (.list (l.map fun p=>.text p.1))with
     | val t =>
      rw[hg]at hr9
      obtain ⟨hb9,v9,rfl,hv9⟩:=hr9
      go_wp2
      go_ret
      exact hP
     | gone gb gw =>
      rw[hg]at hr9
      obtain ⟨hb9,rfl⟩:=hr9
      exact ⟨rfl,hP⟩
theorem call_has (a:Int) (p0 p1:Ex) (A:Option Addr) (c:Nat) (y:List Value) (hy:Eleven y) (ih0:AskC p0) (ih1:AskC p1) (v:V) (vv:Value) (n:Nat) (S:Nat→Prop) (w:World) (bw:Nat)
  (hS:Seen S w bw) (hbw:bw<w.heap.size) (hn:n≤1048576) (hp:PartsS w S A [p0,p1]) (hv:RdS w S v vv) (ht:tameV v) (hw:Words w S 1 kindWords) (hh:Hold w bw 0 (.int .i64 n)) :
  Calls Tryz.prog 66 #[.pointer (some ⟨bw,0,none⟩),eV oCall a (.slice A 2 c) gHas y,vv] w (AskPost S bw (callA gHas a (askL [p0,p1]) v n) w):=by
 have HBad:=Hd (fun (W:World)=>bad_any oCall a (.slice A 2 c) gHas y hy rfl W)
 have HGood:=Hd (fun (x:V) (u:Value) (S':Nat→Prop) (W:World)=>good_any oCall a (.slice A 2 c) gHas y hy rfl x u S' W)
 obtain ⟨n0,n1,n2,n3,n4,n5,n6,n7,n8,n9,n10,rfl,h1⟩:=hy
 clear h1
 unfold eV at *
 have HB:Hid (Below w.heap.size w (w.alloc (.cells #[.string oCall,.int .i64 a,.slice A 2 c,.string gHas,n0,n1,n2,n3,n4,n5,n6,n7,n8,n9,n10] 32))):=Hd bnew
 have HA0:Hid (Aside bw w (w.alloc (.cells #[.string oCall,.int .i64 a,.slice A 2 c,.string gHas,n0,n1,n2,n3,n4,n5,n6,n7,n8,n9,n10] 32))):=Hd (Aside.of_below HB.out)
 obtain ⟨bp,offp,xs,eA,hSb,c0,hxs⟩:=hp.get (k:=0) (x:=p0) rfl
 obtain ⟨bp1,offp1,ys,eB,hSb1,dd,hxs1⟩:=hp.get (k:=1) (x:=p1) rfl
 rw[eA]at eB
 injection eB with eB
 injection eB with eB1 eB2 _
 subst eB1
 subst eB2
 rw[Nat.one_mul]at dd
 subst eA
 rw[Nat.zero_mul,Nat.add_zero]at c0
 have c1:=c0.keep (fun p hp=>HB.out.cell (by rw[hp];exact (hS bp hSb).1))
 have HC:=Hd (ih0 xs v vv n S _ bw (hS.to HB.out.size) (Nat.lt_of_lt_of_le hbw HB.out.size) hn (hxs.aside hS HA0.out) (hv.aside hS HA0.out) ht (hw.aside hS HA0.out) (hh.below HB.out hbw))
 have HCnt:=Hd (ask_count p0 v n hn)
 have HTm:=Hd (ask_tame p0 v n ht)
 have HU:Hid (callA gHas a (askL [p0,p1]) v n=bindA (askV p0 v n) fun x m=>bindA (askV p1 v m) fun y k=>(hasV a x y,k)):=Hd (by unfold callA;refine congrArg (bindA _) ?_;funext x m;rfl)
 have hne:w.heap.size≠bw:=by omega
 clear ih0 hp hh c0
 generalize askV p0 v n=q at *
 obtain ⟨op',a',l',nm',t'⟩:=p0
 obtain ⟨A',c',y',rfl,-,-,-,hty,-⟩:=hxs
 obtain ⟨m0,m1,m2,m3,m4,m5,m6,m7,m8,m9,m10,rfl,h1c⟩:=hty.elevenS
 unfold termOf at HC
 obtain ⟨q0,q1,q2,q3,q4,q5,q6,q7,q8,q9,q10,q11,q12,q13,q14⟩:=lie15 c1
 clear hty h1c c1
 obtain ⟨ou,m'⟩:=q
 go_enter Tryz.func66,Tryz.ntmps66
 cases ou with
 | gone ga gw =>
  go_wp2_with fail
  refine HC.out.mono ?_
  rintro e w1 ⟨hA2,hH2,rfl⟩
  exact ⟨rfl,AskPost.gone_ (by rw[HU.out];rfl) (HA0.out.trans hA2) hH2⟩
 | val u =>
  have hm2:m'≤1048576:=HCnt.out u rfl
  have hut:tameV u:=HTm.out u rfl
  have HU2:=Hd (HU.out.trans rfl)
  clear HCnt HTm HU
  go_wp2_with fail
  refine HC.out.mono ?_
  rintro e w1 ⟨hA2,hH2,uv,rfl,huv⟩
  have hA3:=HA0.out.trans hA2
  have hz3:=hA3.size
  have hz4:w.heap.size+1≤w1.heap.size:=by have:=hA2.size;simp at this;omega
  have hS1:Seen (fun b=>S b∨New (w.alloc (.cells #[.string oCall,.int .i64 a,.slice (some ⟨bp,offp,none⟩) 2 c,.string gHas,n0,n1,n2,n3,n4,n5,n6,n7,n8,n9,n10] 32)) w1 b) w1 bw:=(hS.to HB.out.size).more (Nat.lt_of_lt_of_le hbw HB.out.size) hA2.size
  have hSN:∀b,(S b∨New (w.alloc (.cells #[.string oCall,.int .i64 a,.slice (some ⟨bp,offp,none⟩) 2 c,.string gHas,n0,n1,n2,n3,n4,n5,n6,n7,n8,n9,n10] 32)) w1 b)→S b∨New w w1 b:=fun b h=>h.imp id (fun h=>⟨Nat.le_trans HB.out.size h.1,h.2⟩)
  have hbw1:bw<w1.heap.size:=by omega
  have qe:=fun (o:Nat)=>hA2.cell (p:=⟨w.heap.size,o,none⟩) (by simp) hne
  have HTu:=Hd (turns_gHas w1)
  go_wp2_with fail
  refine HTu.out.mono ?_
  rintro e w2 ⟨rfl,rfl⟩
  have hx2:=(hxs1.aside hS hA3)
  have d1:=dd.keep (fun p hp=>hA3.cell (by rw[hp];exact (hS bp hSb).1) (by rw[hp];exact (hS bp hSb).2))
  have HC1:=Hd (ih1 ys v vv m' S w1 bw (hS.to hz3) hbw1 hm2 hx2 (hv.aside hS hA3) ht (hw.aside hS hA3) hH2)
  have HTm1:=Hd (ask_tame p1 v m' ht)
  generalize hq1:askV p1 v m'=q1 at *
  obtain ⟨o1,m1'⟩:=q1
  obtain ⟨op2,a2,l2,nm2,t2⟩:=p1
  obtain ⟨A2,c2,y2,rfl,-,-,-,hty2,-⟩:=hxs1
  obtain ⟨j0,j1,j2,j3,j4,j5,j6,j7,j8,j9,j10,rfl,h2c⟩:=hty2.elevenS
  unfold termOf at HC1
  clear q0 q1 q2 q3 q4 q5 q6 q7 q8 q9 q10 q11 q12 q13 q14
  obtain ⟨q0,q1,q2,q3,q4,q5,q6,q7,q8,q9,q10,q11,q12,q13,q14⟩:=lie15 d1
  clear hty2 h2c d1 dd ih1 hx2
  cases o1 with
  | gone ga gw =>
   have HK:Hid (callA gHas a (askL [.mk op' a' l' nm' t',.mk op2 a2 l2 nm2 t2]) v n=(.gone ga gw,m1')):=Hd (HU2.out.trans (by show bindA (askV _ v m') _=_;rw[hq1];rfl))
   go_wp2_with fail
   refine HC1.out.mono ?_
   rintro e w3 ⟨hA4,hH4,rfl⟩
   exact ⟨rfl,AskPost.gone_ HK.out (hA3.trans hA4) hH4⟩
  | val z =>
   have HK:Hid (callA gHas a (askL [.mk op' a' l' nm' t',.mk op2 a2 l2 nm2 t2]) v n=(hasV a u z,m1')):=Hd (HU2.out.trans (by show bindA (askV _ v m') _=_;rw[hq1];rfl))
   clear HU2 hq1
   go_wp2_with fail
   refine HC1.out.mono ?_
   rintro e w3 ⟨hA4,hH5,zv,rfl,hzv⟩
   have hA5:=hA3.trans hA4
   have hz5:=hA4.size
   have hzt:tameV z:=HTm1.out z rfl
   have qe5:=fun (o:Nat)=>(hA4.cell (p:=⟨w.heap.size,o,none⟩) (by show w.heap.size<w1.heap.size;omega) hne).trans (qe o)
   have huv5:=huv.aside hS1 hA4
   have hS5:Seen (fun b=>S b∨New (w.alloc (.cells #[.string oCall,.int .i64 a,.slice (some ⟨bp,offp,none⟩) 2 c,.string gHas,n0,n1,n2,n3,n4,n5,n6,n7,n8,n9,n10] 32)) w1 b) w3 bw:=hS1.to hA4.size
   have HQ:=Hd (qfields_any u uv _ w3 (tame_kind hut) huv5)
   unfold FieldsPost at HQ
   by_cases h5:kindV z=5
   ·obtain ⟨s,rfl⟩:=kind_is_text h5
    obtain ⟨rfl,hs⟩:=hzv
    cases hf:fieldsOf u with
    | none =>
     rw[hf]at HQ
     go_wp2_with fail
     refine HQ.out.mono ?_
     rintro e w4 ⟨rfl,rfl⟩
     go_wp2_with fail
     refine (HBad.out _).mono ?_
     rintro e w9 ⟨rfl,hb9⟩
     exact ⟨rfl,AskPost.gone_ (HK.out.trans (by unfold hasV;rw[hf])) (hA5.trans (Aside.of_below hb9)) (hH5.below hb9 (by omega))⟩
    | some l =>
     rw[hf]at HQ
     go_wp2_with fail
     refine HQ.out.mono ?_
     rintro e w4 ⟨rfl,Al,cl,rfl,hll,hD⟩
     have HUn:=Hd (under_any l Al cl s _ w3 (fun b h=>(hS5 b h).1) hll hD)
     unfold UnderPost at HUn
     cases hun:underV l s with
     | none =>
      rw[hun]at HUn
      go_wp2_with fail
      refine HUn.out.mono ?_
      rintro e w5 ⟨hb5,rfl⟩
      go_wp2
      go_ret
      exact AskPost.val_ (x:=.bool false) (HK.out.trans (by unfold hasV;rw[hf];exact congrArg (fun o=>(Out.val (.bool (Option.isSome o)),m1')) hun)) (hA5.trans (Aside.of_below hb5)) (hH5.below hb5 (by omega)) rfl
     | some t =>
      rw[hun]at HUn
      go_wp2_with fail
      refine HUn.out.mono ?_
      rintro e w5 ⟨hb5,tv,rfl,htv⟩
      go_wp2
      go_ret
      exact AskPost.val_ (x:=.bool true) (HK.out.trans (by unfold hasV;rw[hf];exact congrArg (fun o=>(Out.val (.bool (Option.isSome o)),m1')) hun)) (hA5.trans (Aside.of_below hb5)) (hH5.below hb5 (by omega)) rfl
   ·have k0:=fun (W:World)=>not_text hzv 20 W h5
    cases hf:fieldsOf u with
    | none =>
     rw[hf]at HQ
     go_wp2_with fail
     refine HQ.out.mono ?_
     rintro e w4 ⟨rfl,rfl⟩
     go_wp2_with fail
     refine (HBad.out _).mono ?_
     rintro e w9 ⟨rfl,hb9⟩
     exact ⟨rfl,AskPost.gone_ (HK.out.trans (by unfold hasV;rw[hf])) (hA5.trans (Aside.of_below hb9)) (hH5.below hb9 (by omega))⟩
    | some l =>
     rw[hf]at HQ
     go_wp2_with fail
     refine HQ.out.mono ?_
     rintro e w4 ⟨rfl,Al,cl,rfl,hll,hD⟩
     go_wp2_with fail
     refine (HBad.out _).mono ?_
     rintro e w9 ⟨rfl,hb9⟩
     exact ⟨rfl,AskPost.gone_ (HK.out.trans (by unfold hasV;rw[hf];cases z <;> first|rfl|exact absurd rfl h5)) (hA5.trans (Aside.of_below hb9)) (hH5.below hb9 (by omega))⟩
theorem Hold.set {w:World} {bw:Nat} {u:Value} (h:Hold w bw 0 u) (v:Value):Hold (w.setCell ⟨bw,0,none⟩ v) bw 0 v:=⟨World.cell?_setCell_same w _ _ h.1,by rw[World.frozen?_setCell];exact h.2⟩
theorem ask_over (op:ByteArray) (a:Int) (l:List Ex) (nm:ByteArray) (t:Tm) (x:List Value) (v:V) (vv:Value) (n:Nat) (S:Nat→Prop) (w:World) (bw:Nat) (hS:Seen S w bw) (hbw:bw<w.heap.size) (hn:n≤1048576) (hx:RdES w S (.mk op a l nm t) x) (hh:Hold w bw 0 (.int .i64 n)) (ho:1048576<n+1) :
  Calls Tryz.prog 44 #[.pointer (some ⟨bw,0,none⟩),termOf x,vv] w (AskPost S bw (askV (.mk op a l nm t) v n) w):=by
 obtain ⟨A,c,y,rfl,hops,ha,hns,hty,hll,hp⟩:=hx
 have hy:Eleven y:=hty.elevenS
 have HBad:=Hd (fun (W:World)=>bad_any op a (.slice A l.length c) nm y hy rfl W)
 obtain ⟨n0,n1,n2,n3,n4,n5,n6,n7,n8,n9,n10,rfl,h1c⟩:=hy
 clear h1c
 have hne:w.heap.size≠bw:=by omega
 have hh1:Hold (w.setCell ⟨bw,0,none⟩ (.int .i64 ((n:Int)+1))) bw 0 (.int .i64 ((n+1:Nat):Int)):=hh.set _
 have hbw0:bw<(w.setCell ⟨bw,0,none⟩ (.int .i64 ((n:Int)+1))).heap.size:=by simp;omega
 have hba:Below (w.setCell ⟨bw,0,none⟩ (.int .i64 ((n:Int)+1))).heap.size (w.setCell ⟨bw,0,none⟩ (.int .i64 ((n:Int)+1))) ((w.setCell ⟨bw,0,none⟩ (.int .i64 ((n:Int)+1))).alloc (.cells #[.string op,.int .i64 a,.slice A l.length c,.string nm,n0,n1,n2,n3,n4,n5,n6,n7,n8,n9,n10] 32)):=bnew
 have HA1:Hid (Aside bw w ((w.setCell ⟨bw,0,none⟩ (.int .i64 ((n:Int)+1))).alloc (.cells #[.string op,.int .i64 a,.slice A l.length c,.string nm,n0,n1,n2,n3,n4,n5,n6,n7,n8,n9,n10] 32))):=Hd ((Aside.set 0 _).trans (Aside.of_below hba))
 have HH1:Hid (Hold ((w.setCell ⟨bw,0,none⟩ (.int .i64 ((n:Int)+1))).alloc (.cells #[.string op,.int .i64 a,.slice A l.length c,.string nm,n0,n1,n2,n3,n4,n5,n6,n7,n8,n9,n10] 32)) bw 0 (.int .i64 ((n+1:Nat):Int))):=Hd (hh1.below hba hbw0)
 have e0:wrap64 ((n:Int)+1)=(n:Int)+1:=by unfold wrap64;omega
 obtain ⟨hc0,hf0⟩:=hh
 have hc1:(w.setCell ⟨bw,0,none⟩ (.int .i64 ((n:Int)+1))).cell? ⟨bw,0,none⟩=some (.int .i64 ((n:Int)+1)):=hh1.1
 have hbw1:bw<((w.setCell ⟨bw,0,none⟩ (.int .i64 ((n:Int)+1))).alloc (.cells #[.string op,.int .i64 a,.slice A l.length c,.string nm,n0,n1,n2,n3,n4,n5,n6,n7,n8,n9,n10] 32)).heap.size:=by simp;omega
 have hS1:Seen S ((w.setCell ⟨bw,0,none⟩ (.int .i64 ((n:Int)+1))).alloc (.cells #[.string op,.int .i64 a,.slice A l.length c,.string nm,n0,n1,n2,n3,n4,n5,n6,n7,n8,n9,n10] 32)) bw:=hS.to HA1.out.size
 clear hh1 hba
 have HU:Hid (askV (.mk op a l nm t) v n=(.gone a 2,n+1)):=Hd (by rw[askV];unfold stepA;rw[if_pos ho])
 have ho':(1048576:Int)<(n:Int)+1:=by omega
 clear hty hp
 unfold termOf eV at *
 go_enter Tryz.func44,Tryz.ntmps44
 go_wp2
 exact ⟨rfl,AskPost.gone_ HU.out HA1.out HH1.out⟩
theorem ask_self (a:Int) (l:List Ex) (nm:ByteArray) (t:Tm):AskC (.mk oSelf a l nm t):=by
 intro x v vv n S w bw hS hbw hn hx hv ht hw hh
 by_cases hlim:1048576<n+1
 ·exact ask_over _ _ _ _ _ x v vv n S w bw hS hbw hn hx hh hlim
 obtain ⟨A,c,y,rfl,hops,ha,hns,hty,hll,hp⟩:=hx
 have hy:Eleven y:=hty.elevenS
 have HBad:=Hd (fun (W:World)=>bad_any oSelf a (.slice A l.length c) nm y hy rfl W)
 obtain ⟨n0,n1,n2,n3,n4,n5,n6,n7,n8,n9,n10,rfl,h1c⟩:=hy
 clear h1c
 have hne:w.heap.size≠bw:=by omega
 have hh1:Hold (w.setCell ⟨bw,0,none⟩ (.int .i64 ((n:Int)+1))) bw 0 (.int .i64 ((n+1:Nat):Int)):=hh.set _
 have hbw0:bw<(w.setCell ⟨bw,0,none⟩ (.int .i64 ((n:Int)+1))).heap.size:=by simp;omega
 have hba:Below (w.setCell ⟨bw,0,none⟩ (.int .i64 ((n:Int)+1))).heap.size (w.setCell ⟨bw,0,none⟩ (.int .i64 ((n:Int)+1))) ((w.setCell ⟨bw,0,none⟩ (.int .i64 ((n:Int)+1))).alloc (.cells #[.string oSelf,.int .i64 a,.slice A l.length c,.string nm,n0,n1,n2,n3,n4,n5,n6,n7,n8,n9,n10] 32)):=bnew
 have HA1:Hid (Aside bw w ((w.setCell ⟨bw,0,none⟩ (.int .i64 ((n:Int)+1))).alloc (.cells #[.string oSelf,.int .i64 a,.slice A l.length c,.string nm,n0,n1,n2,n3,n4,n5,n6,n7,n8,n9,n10] 32))):=Hd ((Aside.set 0 _).trans (Aside.of_below hba))
 have HH1:Hid (Hold ((w.setCell ⟨bw,0,none⟩ (.int .i64 ((n:Int)+1))).alloc (.cells #[.string oSelf,.int .i64 a,.slice A l.length c,.string nm,n0,n1,n2,n3,n4,n5,n6,n7,n8,n9,n10] 32)) bw 0 (.int .i64 ((n+1:Nat):Int))):=Hd (hh1.below hba hbw0)
 have e0:wrap64 ((n:Int)+1)=(n:Int)+1:=by unfold wrap64;omega
 obtain ⟨hc0,hf0⟩:=hh
 have hc1:(w.setCell ⟨bw,0,none⟩ (.int .i64 ((n:Int)+1))).cell? ⟨bw,0,none⟩=some (.int .i64 ((n:Int)+1)):=hh1.1
 have hbw1:bw<((w.setCell ⟨bw,0,none⟩ (.int .i64 ((n:Int)+1))).alloc (.cells #[.string oSelf,.int .i64 a,.slice A l.length c,.string nm,n0,n1,n2,n3,n4,n5,n6,n7,n8,n9,n10] 32)).heap.size:=by simp;omega
 have hS1:Seen S ((w.setCell ⟨bw,0,none⟩ (.int .i64 ((n:Int)+1))).alloc (.cells #[.string oSelf,.int .i64 a,.slice A l.length c,.string nm,n0,n1,n2,n3,n4,n5,n6,n7,n8,n9,n10] 32)) bw:=hS.to HA1.out.size
 clear hh1 hba
 have HU:Hid (askV (.mk oSelf a l nm t) v n=(.val v,n+1)):=Hd (by rw[askV];unfold stepA;rw[if_neg (by omega),if_neg (by decide),if_pos rfl])
 have ho':¬(1048576:Int)<(n:Int)+1:=by omega
 have HV:=Hd (hv.aside hS HA1.out)
 clear hty hp hv hw
 unfold termOf eV at *
 go_enter Tryz.func44,Tryz.ntmps44
 go_wp2
 go_ret
 exact AskPost.val_ HU.out HA1.out HH1.out (RdS.more (fun b h=>.inl h) _ _ HV.out)
theorem ask_value (a:Int) (l:List Ex) (nm:ByteArray) (t:Tm):AskC (.mk oValue a l nm t):=by
 intro x v vv n S w bw hS hbw hn hx hv ht hw hh
 by_cases hlim:1048576<n+1
 ·exact ask_over _ _ _ _ _ x v vv n S w bw hS hbw hn hx hh hlim
 obtain ⟨A,c,y,rfl,hops,ha,hns,hty,hll,hp⟩:=hx
 have HOf:=Hd (fun (W:World) (hW:Aside bw w W)=>of_any t y W (RdTS.more (fun b hb=>(hS.to hW.size b hb).1) _ _ (RdTS.keep (fun p hp=>hW.cell (hS _ hp).1 (hS _ hp).2) _ _ hty)))
 unfold OfPost at HOf
 have hy:Eleven y:=hty.elevenS
 have HBad:=Hd (fun (W:World)=>bad_any oValue a (.slice A l.length c) nm y hy rfl W)
 obtain ⟨n0,n1,n2,n3,n4,n5,n6,n7,n8,n9,n10,rfl,h1c⟩:=hy
 clear h1c
 have hne:w.heap.size≠bw:=by omega
 have hh1:Hold (w.setCell ⟨bw,0,none⟩ (.int .i64 ((n:Int)+1))) bw 0 (.int .i64 ((n+1:Nat):Int)):=hh.set _
 have hbw0:bw<(w.setCell ⟨bw,0,none⟩ (.int .i64 ((n:Int)+1))).heap.size:=by simp;omega
 have hba:Below (w.setCell ⟨bw,0,none⟩ (.int .i64 ((n:Int)+1))).heap.size (w.setCell ⟨bw,0,none⟩ (.int .i64 ((n:Int)+1))) ((w.setCell ⟨bw,0,none⟩ (.int .i64 ((n:Int)+1))).alloc (.cells #[.string oValue,.int .i64 a,.slice A l.length c,.string nm,n0,n1,n2,n3,n4,n5,n6,n7,n8,n9,n10] 32)):=bnew
 have HA1:Hid (Aside bw w ((w.setCell ⟨bw,0,none⟩ (.int .i64 ((n:Int)+1))).alloc (.cells #[.string oValue,.int .i64 a,.slice A l.length c,.string nm,n0,n1,n2,n3,n4,n5,n6,n7,n8,n9,n10] 32))):=Hd ((Aside.set 0 _).trans (Aside.of_below hba))
 have HH1:Hid (Hold ((w.setCell ⟨bw,0,none⟩ (.int .i64 ((n:Int)+1))).alloc (.cells #[.string oValue,.int .i64 a,.slice A l.length c,.string nm,n0,n1,n2,n3,n4,n5,n6,n7,n8,n9,n10] 32)) bw 0 (.int .i64 ((n+1:Nat):Int))):=Hd (hh1.below hba hbw0)
 have e0:wrap64 ((n:Int)+1)=(n:Int)+1:=by unfold wrap64;omega
 obtain ⟨hc0,hf0⟩:=hh
 have hc1:(w.setCell ⟨bw,0,none⟩ (.int .i64 ((n:Int)+1))).cell? ⟨bw,0,none⟩=some (.int .i64 ((n:Int)+1)):=hh1.1
 have hbw1:bw<((w.setCell ⟨bw,0,none⟩ (.int .i64 ((n:Int)+1))).alloc (.cells #[.string oValue,.int .i64 a,.slice A l.length c,.string nm,n0,n1,n2,n3,n4,n5,n6,n7,n8,n9,n10] 32)).heap.size:=by simp;omega
 have hS1:Seen S ((w.setCell ⟨bw,0,none⟩ (.int .i64 ((n:Int)+1))).alloc (.cells #[.string oValue,.int .i64 a,.slice A l.length c,.string nm,n0,n1,n2,n3,n4,n5,n6,n7,n8,n9,n10] 32)) bw:=hS.to HA1.out.size
 clear hh1 hba
 have HU:Hid (askV (.mk oValue a l nm t) v n=(.val (literalV t),n+1)):=Hd (by rw[askV];unfold stepA;rw[if_neg (by omega),if_pos rfl])
 have ho':¬(1048576:Int)<(n:Int)+1:=by omega
 clear hty hp hv hw
 unfold termOf eV at *
 go_enter Tryz.func44,Tryz.ntmps44
 go_wp2_with fail
 refine (HOf.out _ HA1.out).mono ?_
 rintro e w9 ⟨u,rfl,hb9,hu1,hu2⟩
 go_wp2
 go_ret
 refine AskPost.val_ HU.out (HA1.out.trans (Aside.of_below hb9)) (HH1.out.below hb9 hbw1) ?_
 unfold literalV
 by_cases hz:(checkV (builtV t)).2=0
 ·rw[if_pos hz];exact RdS.more (fun b h=>.inr ⟨Nat.le_trans HA1.out.size h.1,h.2⟩) _ _ (hu1 hz)
 ·rw[if_neg hz];exact hu2 hz
theorem ask_field (a:Int) (l:List Ex) (nm:ByteArray) (t:Tm):AskC (.mk oField a l nm t):=by
 intro x v vv n S w bw hS hbw hn hx hv ht hw hh
 by_cases hlim:1048576<n+1
 ·exact ask_over _ _ _ _ _ x v vv n S w bw hS hbw hn hx hh hlim
 obtain ⟨A,c,y,rfl,hops,ha,hns,hty,hll,hp⟩:=hx
 have hy:Eleven y:=hty.elevenS
 have HBad:=Hd (fun (W:World)=>bad_any oField a (.slice A l.length c) nm y hy rfl W)
 have HFi:=Hd (fun (W:World) (hW:Aside bw w W)=>field_any oField a (.slice A l.length c) nm y hy rfl v vv nm S W (fun b h=>(hS.to hW.size b h).1) (tame_kind ht) (hv.aside hS hW))
 obtain ⟨n0,n1,n2,n3,n4,n5,n6,n7,n8,n9,n10,rfl,h1c⟩:=hy
 clear h1c
 have hne:w.heap.size≠bw:=by omega
 have hh1:Hold (w.setCell ⟨bw,0,none⟩ (.int .i64 ((n:Int)+1))) bw 0 (.int .i64 ((n+1:Nat):Int)):=hh.set _
 have hbw0:bw<(w.setCell ⟨bw,0,none⟩ (.int .i64 ((n:Int)+1))).heap.size:=by simp;omega
 have hba:Below (w.setCell ⟨bw,0,none⟩ (.int .i64 ((n:Int)+1))).heap.size (w.setCell ⟨bw,0,none⟩ (.int .i64 ((n:Int)+1))) ((w.setCell ⟨bw,0,none⟩ (.int .i64 ((n:Int)+1))).alloc (.cells #[.string oField,.int .i64 a,.slice A l.length c,.string nm,n0,n1,n2,n3,n4,n5,n6,n7,n8,n9,n10] 32)):=bnew
 have HA1:Hid (Aside bw w ((w.setCell ⟨bw,0,none⟩ (.int .i64 ((n:Int)+1))).alloc (.cells #[.string oField,.int .i64 a,.slice A l.length c,.string nm,n0,n1,n2,n3,n4,n5,n6,n7,n8,n9,n10] 32))):=Hd ((Aside.set 0 _).trans (Aside.of_below hba))
 have HH1:Hid (Hold ((w.setCell ⟨bw,0,none⟩ (.int .i64 ((n:Int)+1))).alloc (.cells #[.string oField,.int .i64 a,.slice A l.length c,.string nm,n0,n1,n2,n3,n4,n5,n6,n7,n8,n9,n10] 32)) bw 0 (.int .i64 ((n+1:Nat):Int))):=Hd (hh1.below hba hbw0)
 have e0:wrap64 ((n:Int)+1)=(n:Int)+1:=by unfold wrap64;omega
 obtain ⟨hc0,hf0⟩:=hh
 have hc1:(w.setCell ⟨bw,0,none⟩ (.int .i64 ((n:Int)+1))).cell? ⟨bw,0,none⟩=some (.int .i64 ((n:Int)+1)):=hh1.1
 have hbw1:bw<((w.setCell ⟨bw,0,none⟩ (.int .i64 ((n:Int)+1))).alloc (.cells #[.string oField,.int .i64 a,.slice A l.length c,.string nm,n0,n1,n2,n3,n4,n5,n6,n7,n8,n9,n10] 32)).heap.size:=by simp;omega
 have hS1:Seen S ((w.setCell ⟨bw,0,none⟩ (.int .i64 ((n:Int)+1))).alloc (.cells #[.string oField,.int .i64 a,.slice A l.length c,.string nm,n0,n1,n2,n3,n4,n5,n6,n7,n8,n9,n10] 32)) bw:=hS.to HA1.out.size
 clear hh1 hba
 have HU:Hid (askV (.mk oField a l nm t) v n=(fieldV a v nm,n+1)):=Hd (by rw[askV];unfold stepA;rw[if_neg (by omega),if_neg (by decide),if_neg (by decide),if_pos rfl])
 have ho':¬(1048576:Int)<(n:Int)+1:=by omega
 clear hty hp hv hw
 unfold termOf eV at *
 go_enter Tryz.func44,Tryz.ntmps44
 go_wp2_with fail
 refine (HFi.out _ HA1.out).mono ?_
 rintro e w9 hr9
 have hP:=AskPost.out (n:=n+1) (S:=S) hr9 HA1.out (fun b h=>.inl h) hbw1 HH1.out
 replace hP:=AskPost.eq_ HU.out hP
 cases hg:fieldV a v nm with
 | val t9 =>
  rw[hg]at hr9
  obtain ⟨hb9,v9,rfl,hv9⟩:=hr9
  go_wp2
  go_ret
  exact hP
 | gone gb gw =>
  rw[hg]at hr9
  obtain ⟨hb9,rfl⟩:=hr9
  exact ⟨rfl,hP⟩
theorem ask_or (a:Int) (l:List Ex) (nm:ByteArray) (t:Tm) (ih:∀x∈l,AskC x):AskC (.mk oOr a l nm t):=by
 intro x v vv n S w bw hS hbw hn hx hv ht hw hh
 by_cases hlim:1048576<n+1
 ·exact ask_over _ _ _ _ _ x v vv n S w bw hS hbw hn hx hh hlim
 obtain ⟨A,c,y,rfl,hops,ha,hns,hty,hll,hp⟩:=hx
 have hy:Eleven y:=hty.elevenS
 have HBad:=Hd (fun (W:World)=>bad_any oOr a (.slice A l.length c) nm y hy rfl W)
 have HLg:=Hd (fun (W:World) (hW:Aside bw w W) (hH:Hold W bw 0 (.int .i64 ((n+1:Nat):Int)))=>logic_or a l A c nm y hy ih v vv (n+1) S W bw (hS.to hW.size) (Nat.lt_of_lt_of_le hbw hW.size) (by omega) hll (PartsS.asideS hp hS hW) (hv.aside hS hW) ht (hw.aside hS hW) hH)
 obtain ⟨n0,n1,n2,n3,n4,n5,n6,n7,n8,n9,n10,rfl,h1c⟩:=hy
 clear h1c
 have hne:w.heap.size≠bw:=by omega
 have hh1:Hold (w.setCell ⟨bw,0,none⟩ (.int .i64 ((n:Int)+1))) bw 0 (.int .i64 ((n+1:Nat):Int)):=hh.set _
 have hbw0:bw<(w.setCell ⟨bw,0,none⟩ (.int .i64 ((n:Int)+1))).heap.size:=by simp;omega
 have hba:Below (w.setCell ⟨bw,0,none⟩ (.int .i64 ((n:Int)+1))).heap.size (w.setCell ⟨bw,0,none⟩ (.int .i64 ((n:Int)+1))) ((w.setCell ⟨bw,0,none⟩ (.int .i64 ((n:Int)+1))).alloc (.cells #[.string oOr,.int .i64 a,.slice A l.length c,.string nm,n0,n1,n2,n3,n4,n5,n6,n7,n8,n9,n10] 32)):=bnew
 have HA1:Hid (Aside bw w ((w.setCell ⟨bw,0,none⟩ (.int .i64 ((n:Int)+1))).alloc (.cells #[.string oOr,.int .i64 a,.slice A l.length c,.string nm,n0,n1,n2,n3,n4,n5,n6,n7,n8,n9,n10] 32))):=Hd ((Aside.set 0 _).trans (Aside.of_below hba))
 have HH1:Hid (Hold ((w.setCell ⟨bw,0,none⟩ (.int .i64 ((n:Int)+1))).alloc (.cells #[.string oOr,.int .i64 a,.slice A l.length c,.string nm,n0,n1,n2,n3,n4,n5,n6,n7,n8,n9,n10] 32)) bw 0 (.int .i64 ((n+1:Nat):Int))):=Hd (hh1.below hba hbw0)
 have e0:wrap64 ((n:Int)+1)=(n:Int)+1:=by unfold wrap64;omega
 obtain ⟨hc0,hf0⟩:=hh
 have hc1:(w.setCell ⟨bw,0,none⟩ (.int .i64 ((n:Int)+1))).cell? ⟨bw,0,none⟩=some (.int .i64 ((n:Int)+1)):=hh1.1
 have hbw1:bw<((w.setCell ⟨bw,0,none⟩ (.int .i64 ((n:Int)+1))).alloc (.cells #[.string oOr,.int .i64 a,.slice A l.length c,.string nm,n0,n1,n2,n3,n4,n5,n6,n7,n8,n9,n10] 32)).heap.size:=by simp;omega
 have hS1:Seen S ((w.setCell ⟨bw,0,none⟩ (.int .i64 ((n:Int)+1))).alloc (.cells #[.string oOr,.int .i64 a,.slice A l.length c,.string nm,n0,n1,n2,n3,n4,n5,n6,n7,n8,n9,n10] 32)) bw:=hS.to HA1.out.size
 clear hh1 hba
 have HU:Hid (askV (.mk oOr a l nm t) v n=logicA a true (askL l) v (n+1)):=Hd (by rw[askV];unfold stepA;rw[if_neg (by omega),if_neg (by decide),if_neg (by decide),if_neg (by decide),if_neg (by decide),if_pos rfl])
 have ho':¬(1048576:Int)<(n:Int)+1:=by omega
 clear hty hp hv hw ih
 unfold termOf eV at *
 go_enter Tryz.func44,Tryz.ntmps44
 go_wp2_with fail
 refine (HLg.out _ HA1.out HH1.out).mono ?_
 rintro e w9 hr9
 have hP:=AskPost.eq_ HU.out (AskPost.chain hr9 HA1.out (fun b h=>.inl h))
 obtain ⟨hA9,hH9,h9⟩:=hr9
 generalize logicA a true (askL l) v (n+1)=r9 at *
 obtain ⟨o9,m9⟩:=r9
 cases o9 with
 | val t9 =>
  obtain ⟨v9,rfl,hv9⟩:=h9
  go_wp2
  go_ret
  exact hP
 | gone gb gw =>
  obtain rfl:=h9
  exact ⟨rfl,hP⟩
theorem ask_and (a:Int) (l:List Ex) (nm:ByteArray) (t:Tm) (ih:∀x∈l,AskC x):AskC (.mk oAnd a l nm t):=by
 intro x v vv n S w bw hS hbw hn hx hv ht hw hh
 by_cases hlim:1048576<n+1
 ·exact ask_over _ _ _ _ _ x v vv n S w bw hS hbw hn hx hh hlim
 obtain ⟨A,c,y,rfl,hops,ha,hns,hty,hll,hp⟩:=hx
 have hy:Eleven y:=hty.elevenS
 have HBad:=Hd (fun (W:World)=>bad_any oAnd a (.slice A l.length c) nm y hy rfl W)
 have HLg:=Hd (fun (W:World) (hW:Aside bw w W) (hH:Hold W bw 0 (.int .i64 ((n+1:Nat):Int)))=>logic_and a l A c nm y hy ih v vv (n+1) S W bw (hS.to hW.size) (Nat.lt_of_lt_of_le hbw hW.size) (by omega) hll (PartsS.asideS hp hS hW) (hv.aside hS hW) ht (hw.aside hS hW) hH)
 obtain ⟨n0,n1,n2,n3,n4,n5,n6,n7,n8,n9,n10,rfl,h1c⟩:=hy
 clear h1c
 have hne:w.heap.size≠bw:=by omega
 have hh1:Hold (w.setCell ⟨bw,0,none⟩ (.int .i64 ((n:Int)+1))) bw 0 (.int .i64 ((n+1:Nat):Int)):=hh.set _
 have hbw0:bw<(w.setCell ⟨bw,0,none⟩ (.int .i64 ((n:Int)+1))).heap.size:=by simp;omega
 have hba:Below (w.setCell ⟨bw,0,none⟩ (.int .i64 ((n:Int)+1))).heap.size (w.setCell ⟨bw,0,none⟩ (.int .i64 ((n:Int)+1))) ((w.setCell ⟨bw,0,none⟩ (.int .i64 ((n:Int)+1))).alloc (.cells #[.string oAnd,.int .i64 a,.slice A l.length c,.string nm,n0,n1,n2,n3,n4,n5,n6,n7,n8,n9,n10] 32)):=bnew
 have HA1:Hid (Aside bw w ((w.setCell ⟨bw,0,none⟩ (.int .i64 ((n:Int)+1))).alloc (.cells #[.string oAnd,.int .i64 a,.slice A l.length c,.string nm,n0,n1,n2,n3,n4,n5,n6,n7,n8,n9,n10] 32))):=Hd ((Aside.set 0 _).trans (Aside.of_below hba))
 have HH1:Hid (Hold ((w.setCell ⟨bw,0,none⟩ (.int .i64 ((n:Int)+1))).alloc (.cells #[.string oAnd,.int .i64 a,.slice A l.length c,.string nm,n0,n1,n2,n3,n4,n5,n6,n7,n8,n9,n10] 32)) bw 0 (.int .i64 ((n+1:Nat):Int))):=Hd (hh1.below hba hbw0)
 have e0:wrap64 ((n:Int)+1)=(n:Int)+1:=by unfold wrap64;omega
 obtain ⟨hc0,hf0⟩:=hh
 have hc1:(w.setCell ⟨bw,0,none⟩ (.int .i64 ((n:Int)+1))).cell? ⟨bw,0,none⟩=some (.int .i64 ((n:Int)+1)):=hh1.1
 have hbw1:bw<((w.setCell ⟨bw,0,none⟩ (.int .i64 ((n:Int)+1))).alloc (.cells #[.string oAnd,.int .i64 a,.slice A l.length c,.string nm,n0,n1,n2,n3,n4,n5,n6,n7,n8,n9,n10] 32)).heap.size:=by simp;omega
 have hS1:Seen S ((w.setCell ⟨bw,0,none⟩ (.int .i64 ((n:Int)+1))).alloc (.cells #[.string oAnd,.int .i64 a,.slice A l.length c,.string nm,n0,n1,n2,n3,n4,n5,n6,n7,n8,n9,n10] 32)) bw:=hS.to HA1.out.size
 clear hh1 hba
 have HU:Hid (askV (.mk oAnd a l nm t) v n=logicA a false (askL l) v (n+1)):=Hd (by rw[askV];unfold stepA;rw[if_neg (by omega),if_neg (by decide),if_neg (by decide),if_neg (by decide),if_neg (by decide),if_neg (by decide),if_pos rfl])
 have ho':¬(1048576:Int)<(n:Int)+1:=by omega
 clear hty hp hv hw ih
 unfold termOf eV at *
 go_enter Tryz.func44,Tryz.ntmps44
 go_wp2_with fail
 refine (HLg.out _ HA1.out HH1.out).mono ?_
 rintro e w9 hr9
 have hP:=AskPost.eq_ HU.out (AskPost.chain hr9 HA1.out (fun b h=>.inl h))
 obtain ⟨hA9,hH9,h9⟩:=hr9
 generalize logicA a false (askL l) v (n+1)=r9 at *
 obtain ⟨o9,m9⟩:=r9
 cases o9 with
 | val t9 =>
  obtain ⟨v9,rfl,hv9⟩:=h9
  go_wp2
  go_ret
  exact hP
 | gone gb gw =>
  obtain rfl:=h9
  exact ⟨rfl,hP⟩
end Go.Proofs.YtbemeapjeipjlaaGreatDoor
