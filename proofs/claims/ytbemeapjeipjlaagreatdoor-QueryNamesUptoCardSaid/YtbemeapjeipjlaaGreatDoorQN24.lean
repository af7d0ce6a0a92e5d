/- Walks: query.walk.ask of two parts: in and sums. -/
import Derived.Test.YtbemeapjeipjlaaGreatDoorQN23
set_option linter.unusedVariables false
set_option linter.unusedSimpArgs false
namespace Go.Proofs.YtbemeapjeipjlaaGreatDoor
open Go Go.RowKit
set_option maxRecDepth 100000
set_option maxHeartbeats 8000000
attribute [local go_sem] ta_no_bool ta_yes_bool ta_nil_bool ta_no_int64 ta_yes_int64 ta_nil_int64 ta_no_flt ta_yes_flt ta_nil_flt ta_no_str ta_yes_str ta_nil_str ta_no_byt ta_yes_byt ta_nil_byt ta_no_ref ta_yes_ref ta_nil_ref ta_no_lst ta_yes_lst ta_nil_lst ta_no_dct ta_yes_dct ta_nil_dct ta_no_rec ta_yes_rec ta_nil_rec
theorem ask_pIn (a:Int) (p0 p1:Ex) (nm:ByteArray) (t:Tm) (ih0:AskC p0) (ih1:AskC p1):AskC (.mk oIn a [p0,p1] nm t):=by
 intro x v vv n S w bw hS hbw hn hx hv ht hw hh
 by_cases hlim:1048576<n+1
 ·exact ask_over _ _ _ _ _ x v vv n S w bw hS hbw hn hx hh hlim
 obtain ⟨A,c,y,rfl,hops,ha,hns,hty,hll,hp⟩:=hx
 obtain ⟨bp,offp,xs,eA,hSb,c0,hxs⟩:=PartsS.get (k:=0) (x:=p0) hp rfl
 obtain ⟨bp1,offp1,ys,eB,hSb1,dd,hxs1⟩:=PartsS.get (k:=1) (x:=p1) hp rfl
 rw[eA]at eB
 injection eB with eB
 injection eB with eB1 eB2 _
 subst eB1
 subst eB2
 subst eA
 rw[Nat.zero_mul,Nat.add_zero]at c0
 rw[Nat.one_mul]at dd
 have hy:Eleven y:=hty.elevenS
 have HBad:=Hd (fun (W:World)=>bad_any oIn a (.slice (some ⟨bp,offp,none⟩) 2 c) nm y hy rfl W)
 have HHe:=Hd (fun (W:World) (S':Nat→Prop) (u z:V) (uv zv:Value) (hS':∀b,S' b→b<W.heap.size) (hu:RdS W S' u uv) (hz:RdS W S' z zv) (tu:tameV u) (tz:tameV z)=>qwithin_any oIn a (.slice (some ⟨bp,offp,none⟩) 2 c) nm y hy rfl u z uv zv S' W hS' hu hz (tame_kind tz))
 obtain ⟨n0,n1,n2,n3,n4,n5,n6,n7,n8,n9,n10,rfl,h1c⟩:=hy
 clear h1c
 have hne:w.heap.size≠bw:=by omega
 have hh1:Hold (w.setCell ⟨bw,0,none⟩ (.int .i64 ((n:Int)+1))) bw 0 (.int .i64 ((n+1:Nat):Int)):=hh.set _
 have hbw0:bw<(w.setCell ⟨bw,0,none⟩ (.int .i64 ((n:Int)+1))).heap.size:=by simp;omega
 have hba:Below (w.setCell ⟨bw,0,none⟩ (.int .i64 ((n:Int)+1))).heap.size (w.setCell ⟨bw,0,none⟩ (.int .i64 ((n:Int)+1))) ((w.setCell ⟨bw,0,none⟩ (.int .i64 ((n:Int)+1))).alloc (.cells #[.string oIn,.int .i64 a,.slice (some ⟨bp,offp,none⟩) 2 c,.string nm,n0,n1,n2,n3,n4,n5,n6,n7,n8,n9,n10] 32)):=bnew
 have HA1:Hid (Aside bw w ((w.setCell ⟨bw,0,none⟩ (.int .i64 ((n:Int)+1))).alloc (.cells #[.string oIn,.int .i64 a,.slice (some ⟨bp,offp,none⟩) 2 c,.string nm,n0,n1,n2,n3,n4,n5,n6,n7,n8,n9,n10] 32))):=Hd ((Aside.set 0 _).trans (Aside.of_below hba))
 have HH1:Hid (Hold ((w.setCell ⟨bw,0,none⟩ (.int .i64 ((n:Int)+1))).alloc (.cells #[.string oIn,.int .i64 a,.slice (some ⟨bp,offp,none⟩) 2 c,.string nm,n0,n1,n2,n3,n4,n5,n6,n7,n8,n9,n10] 32)) bw 0 (.int .i64 ((n+1:Nat):Int))):=Hd (hh1.below hba hbw0)
 have e0:wrap64 ((n:Int)+1)=(n:Int)+1:=by unfold wrap64;omega
 obtain ⟨hc0,hf0⟩:=hh
 have hc1:(w.setCell ⟨bw,0,none⟩ (.int .i64 ((n:Int)+1))).cell? ⟨bw,0,none⟩=some (.int .i64 ((n:Int)+1)):=hh1.1
 have hbw1:bw<((w.setCell ⟨bw,0,none⟩ (.int .i64 ((n:Int)+1))).alloc (.cells #[.string oIn,.int .i64 a,.slice (some ⟨bp,offp,none⟩) 2 c,.string nm,n0,n1,n2,n3,n4,n5,n6,n7,n8,n9,n10] 32)).heap.size:=by simp;omega
 have hS1:Seen S ((w.setCell ⟨bw,0,none⟩ (.int .i64 ((n:Int)+1))).alloc (.cells #[.string oIn,.int .i64 a,.slice (some ⟨bp,offp,none⟩) 2 c,.string nm,n0,n1,n2,n3,n4,n5,n6,n7,n8,n9,n10] 32)) bw:=hS.to HA1.out.size
 clear hh1 hba
 have c1:=c0.keep (fun p hp=>HA1.out.cell (by rw[hp];exact (hS bp hSb).1) (by rw[hp];exact (hS bp hSb).2))
 have HC:=Hd (ih0 xs v vv (n+1) S ((w.setCell ⟨bw,0,none⟩ (.int .i64 ((n:Int)+1))).alloc (.cells #[.string oIn,.int .i64 a,.slice (some ⟨bp,offp,none⟩) 2 c,.string nm,n0,n1,n2,n3,n4,n5,n6,n7,n8,n9,n10] 32)) bw hS1 hbw1 (by omega) (hxs.aside hS HA1.out) (hv.aside hS HA1.out) ht (hw.aside hS HA1.out) HH1.out)
 have HAsk1:=Hd (fun (w1:World) (S2:Nat→Prop) (m:Nat) (hA:Aside bw w w1) (hS2:Seen S2 w1 bw) (hSI:∀b,S b→S2 b) (hm:m≤1048576) (hbw:bw<w1.heap.size) (hH:Hold w1 bw 0 (.int .i64 m))=>ih1 ys v vv m S2 w1 bw hS2 hbw hm (RdES.more hSI _ _ (hxs1.aside hS hA)) (RdS.more hSI _ _ (hv.aside hS hA)) ht ((hw.aside hS hA).more hSI) hH)
 have HTm:=Hd (ask_tame p0 v (n+1) ht)
 have HCnt:=Hd (ask_count p0 v (n+1) (by omega))
 have HTm1:=Hd (fun m=>ask_tame p1 v m ht)
 have HPv:Hid (∀u z,pairV oIn a u z=withinV a u z):=Hd (fun u z=>by unfold pairV;rw[if_neg (by decide),if_pos rfl])
 have HU:Hid (askV (.mk oIn a [p0,p1] nm t) v n=bindA (askV p0 v (n+1)) fun x m=>bindA (askV p1 v m) fun y k=>(pairV oIn a x y,k)):=Hd (by rw[askV];unfold stepA;rw[if_neg (by omega),if_neg (by decide),if_neg (by decide),if_neg (by decide),if_neg (by decide),if_neg (by decide),if_neg (by decide),if_neg (by decide),if_neg (by decide),if_neg (by decide),if_neg (by decide),if_neg (by decide)];rfl)
 have ho':¬(1048576:Int)<(n:Int)+1:=by omega
 clear ih0 ih1 hp c0 hty
 generalize askV p0 v (n+1)=q at *
 generalize askV p1 v=fa1 at *
 obtain ⟨op',a',l',nm',t'⟩:=p0
 obtain ⟨A',c',y',rfl,-,-,-,hty',-⟩:=hxs
 obtain ⟨m0,m1,m2,m3,m4,m5,m6,m7,m8,m9,m10,rfl,h1c⟩:=hty'.elevenS
 obtain ⟨op2,a2,l2,nm2,t2⟩:=p1
 obtain ⟨A2,c2,y2,rfl,-,-,-,hty2,-⟩:=hxs1
 obtain ⟨j0,j1,j2,j3,j4,j5,j6,j7,j8,j9,j10,rfl,h2c⟩:=hty2.elevenS
 unfold termOf eV at *
 obtain ⟨q0,q1,q2,q3,q4,q5,q6,q7,q8,q9,q10,q11,q12,q13,q14⟩:=lie15 c1
 clear hty' h1c c1 hty2 h2c hv hw
 obtain ⟨ou,m'⟩:=q
 go_enter Tryz.func44,Tryz.ntmps44
 cases ou with
 | gone ga gw =>
  go_wp2_with fail
  refine HC.out.mono ?_
  rintro e w1 ⟨hA2,hH2,rfl⟩
  exact ⟨rfl,AskPost.gone_ (by rw[HU.out];rfl) (HA1.out.trans hA2) hH2⟩
 | val u =>
  go_wp2_with fail
  refine HC.out.mono ?_
  rintro e w1 ⟨hA2,hH2,uv,rfl,huv⟩
  have hz3:=hA2.size
  have hz4:w.heap.size+1≤w1.heap.size:=by have:=hA2.size;simp at this;omega
  have hA3:=HA1.out.trans hA2
  have hS2:Seen (fun b=>S b∨New ((w.setCell ⟨bw,0,none⟩ (.int .i64 ((n:Int)+1))).alloc (.cells #[.string oIn,.int .i64 a,.slice (some ⟨bp,offp,none⟩) 2 c,.string nm,n0,n1,n2,n3,n4,n5,n6,n7,n8,n9,n10] 32)) w1 b) w1 bw:=hS1.more hbw1 hA2.size
  have hSN:∀b,(S b∨New ((w.setCell ⟨bw,0,none⟩ (.int .i64 ((n:Int)+1))).alloc (.cells #[.string oIn,.int .i64 a,.slice (some ⟨bp,offp,none⟩) 2 c,.string nm,n0,n1,n2,n3,n4,n5,n6,n7,n8,n9,n10] 32)) w1 b)→S b∨New w w1 b:=fun b h=>h.imp id (fun h=>⟨Nat.le_trans HA1.out.size h.1,h.2⟩)
  have hbw2:bw<w1.heap.size:=by omega
  have qa:=fun (o:Nat)=>hA2.cell (p:=⟨w.heap.size,o,none⟩) (by simp) hne
  have hut:tameV u:=HTm.out u rfl
  have hm2:m'≤1048576:=HCnt.out u rfl
  have d1:=dd.keep (fun p hp=>hA3.cell (by rw[hp];exact (hS bp hSb).1) (by rw[hp];exact (hS bp hSb).2))
  have HC1:=Hd (HAsk1.out w1 _ m' hA3 hS2 (fun b h=>.inl h) hm2 hbw2 hH2)
  have HTz:=Hd (HTm1.out m')
  have HU2:=Hd (HU.out.trans (rfl:_=bindA (fa1 m') fun y k=>(pairV oIn a u y,k)))
  clear q0 q1 q2 q3 q4 q5 q6 q7 q8 q9 q10 q11 q12 q13 q14 HU HTm HCnt HTm1 HAsk1 dd
  obtain ⟨q0,q1,q2,q3,q4,q5,q6,q7,q8,q9,q10,q11,q12,q13,q14⟩:=lie15 d1
  clear d1
  generalize fa1 m'=q2 at *
  obtain ⟨oz,k'⟩:=q2
  cases oz with
  | gone ga gw =>
   go_wp2_with fail
   refine HC1.out.mono ?_
   rintro e w2 ⟨hA4,hH4,rfl⟩
   exact ⟨rfl,AskPost.gone_ (by rw[HU2.out];rfl) (hA3.trans hA4) hH4⟩
  | val z =>
   go_wp2_with fail
   refine HC1.out.mono ?_
   rintro e w2 ⟨hA4,hH4,zv,rfl,hzv⟩
   have hA5:=hA3.trans hA4
   have hz5:=hA4.size
   have hzt:tameV z:=HTz.out z rfl
   have qb:=fun (o:Nat)=>(hA4.cell (p:=⟨w.heap.size,o,none⟩) (by show w.heap.size<w1.heap.size;omega) hne).trans (qa o)
   have hS3:=hS2.more hbw2 hA4.size
   have HHz:=Hd (HHe.out w2 _ u z uv zv (fun b h=>(hS3 b h).1) (RdS.more (fun b h=>.inl h) _ _ (huv.aside hS2 hA4)) hzv hut hzt)
   rw[←HPv.out]at HHz
   clear q0 q1 q2 q3 q4 q5 q6 q7 q8 q9 q10 q11 q12 q13 q14 HHe
   go_wp2_with fail
   refine HHz.out.mono ?_
   rintro e w9 hr9
   have hP:=AskPost.out (n:=k') (S:=S) hr9 hA5 (fun b h=>h.elim (fun h=>(hSN b h).imp id (fun h=>⟨h.1,Nat.lt_of_lt_of_le h.2 hz5⟩)) (fun h=>.inr ⟨Nat.le_trans hA3.size h.1,h.2⟩)) (by omega) hH4
   replace hP:=AskPost.eq_ HU2.out hP
   cases hg:pairV oIn a u z with
   | val t9 =>
    rw[hg]at hr9
    obtain ⟨hb9,v9,rfl,hv9⟩:=hr9
    go_wp2
    go_ret
    exact hP
   | gone gb gw =>
    rw[hg]at hr9
    obtain ⟨hb9,rfl⟩:=hr9
    exact ⟨rfl,hP⟩
theorem ask_pAdd (a:Int) (p0 p1:Ex) (nm:ByteArray) (t:Tm) (ih0:AskC p0) (ih1:AskC p1):AskC (.mk oAdd a [p0,p1] nm t):=by
 intro x v vv n S w bw hS hbw hn hx hv ht hw hh
 by_cases hlim:1048576<n+1
 ·exact ask_over _ _ _ _ _ x v vv n S w bw hS hbw hn hx hh hlim
 obtain ⟨A,c,y,rfl,hops,ha,hns,hty,hll,hp⟩:=hx
 obtain ⟨bp,offp,xs,eA,hSb,c0,hxs⟩:=PartsS.get (k:=0) (x:=p0) hp rfl
 obtain ⟨bp1,offp1,ys,eB,hSb1,dd,hxs1⟩:=PartsS.get (k:=1) (x:=p1) hp rfl
 rw[eA]at eB
 injection eB with eB
 injection eB with eB1 eB2 _
 subst eB1
 subst eB2
 subst eA
 rw[Nat.zero_mul,Nat.add_zero]at c0
 rw[Nat.one_mul]at dd
 have hy:Eleven y:=hty.elevenS
 have HBad:=Hd (fun (W:World)=>bad_any oAdd a (.slice (some ⟨bp,offp,none⟩) 2 c) nm y hy rfl W)
 have HHe:=Hd (fun (W:World) (S':Nat→Prop) (u z:V) (uv zv:Value) (hS':∀b,S' b→b<W.heap.size) (hu:RdS W S' u uv) (hz:RdS W S' z zv) (tu:tameV u) (tz:tameV z)=>reckon_add_any a (.slice (some ⟨bp,offp,none⟩) 2 c) nm y hy rfl u z uv zv S' W hS' hu hz (tame_top tu) (tame_top tz))
 obtain ⟨n0,n1,n2,n3,n4,n5,n6,n7,n8,n9,n10,rfl,h1c⟩:=hy
 clear h1c
 have hne:w.heap.size≠bw:=by omega
 have hh1:Hold (w.setCell ⟨bw,0,none⟩ (.int .i64 ((n:Int)+1))) bw 0 (.int .i64 ((n+1:Nat):Int)):=hh.set _
 have hbw0:bw<(w.setCell ⟨bw,0,none⟩ (.int .i64 ((n:Int)+1))).heap.size:=by simp;omega
 have hba:Below (w.setCell ⟨bw,0,none⟩ (.int .i64 ((n:Int)+1))).heap.size (w.setCell ⟨bw,0,none⟩ (.int .i64 ((n:Int)+1))) ((w.setCell ⟨bw,0,none⟩ (.int .i64 ((n:Int)+1))).alloc (.cells #[.string oAdd,.int .i64 a,.slice (some ⟨bp,offp,none⟩) 2 c,.string nm,n0,n1,n2,n3,n4,n5,n6,n7,n8,n9,n10] 32)):=bnew
 have HA1:Hid (Aside bw w ((w.setCell ⟨bw,0,none⟩ (.int .i64 ((n:Int)+1))).alloc (.cells #[.string oAdd,.int .i64 a,.slice (some ⟨bp,offp,none⟩) 2 c,.string nm,n0,n1,n2,n3,n4,n5,n6,n7,n8,n9,n10] 32))):=Hd ((Aside.set 0 _).trans (Aside.of_below hba))
 have HH1:Hid (Hold ((w.setCell ⟨bw,0,none⟩ (.int .i64 ((n:Int)+1))).alloc (.cells #[.string oAdd,.int .i64 a,.slice (some ⟨bp,offp,none⟩) 2 c,.string nm,n0,n1,n2,n3,n4,n5,n6,n7,n8,n9,n10] 32)) bw 0 (.int .i64 ((n+1:Nat):Int))):=Hd (hh1.below hba hbw0)
 have e0:wrap64 ((n:Int)+1)=(n:Int)+1:=by unfold wrap64;omega
 obtain ⟨hc0,hf0⟩:=hh
 have hc1:(w.setCell ⟨bw,0,none⟩ (.int .i64 ((n:Int)+1))).cell? ⟨bw,0,none⟩=some (.int .i64 ((n:Int)+1)):=hh1.1
 have hbw1:bw<((w.setCell ⟨bw,0,none⟩ (.int .i64 ((n:Int)+1))).alloc (.cells #[.string oAdd,.int .i64 a,.slice (some ⟨bp,offp,none⟩) 2 c,.string nm,n0,n1,n2,n3,n4,n5,n6,n7,n8,n9,n10] 32)).heap.size:=by simp;omega
 have hS1:Seen S ((w.setCell ⟨bw,0,none⟩ (.int .i64 ((n:Int)+1))).alloc (.cells #[.string oAdd,.int .i64 a,.slice (some ⟨bp,offp,none⟩) 2 c,.string nm,n0,n1,n2,n3,n4,n5,n6,n7,n8,n9,n10] 32)) bw:=hS.to HA1.out.size
 clear hh1 hba
 have c1:=c0.keep (fun p hp=>HA1.out.cell (by rw[hp];exact (hS bp hSb).1) (by rw[hp];exact (hS bp hSb).2))
 have HC:=Hd (ih0 xs v vv (n+1) S ((w.setCell ⟨bw,0,none⟩ (.int .i64 ((n:Int)+1))).alloc (.cells #[.string oAdd,.int .i64 a,.slice (some ⟨bp,offp,none⟩) 2 c,.string nm,n0,n1,n2,n3,n4,n5,n6,n7,n8,n9,n10] 32)) bw hS1 hbw1 (by omega) (hxs.aside hS HA1.out) (hv.aside hS HA1.out) ht (hw.aside hS HA1.out) HH1.out)
 have HAsk1:=Hd (fun (w1:World) (S2:Nat→Prop) (m:Nat) (hA:Aside bw w w1) (hS2:Seen S2 w1 bw) (hSI:∀b,S b→S2 b) (hm:m≤1048576) (hbw:bw<w1.heap.size) (hH:Hold w1 bw 0 (.int .i64 m))=>ih1 ys v vv m S2 w1 bw hS2 hbw hm (RdES.more hSI _ _ (hxs1.aside hS hA)) (RdS.more hSI _ _ (hv.aside hS hA)) ht ((hw.aside hS hA).more hSI) hH)
 have HTm:=Hd (ask_tame p0 v (n+1) ht)
 have HCnt:=Hd (ask_count p0 v (n+1) (by omega))
 have HTm1:=Hd (fun m=>ask_tame p1 v m ht)
 have HPv:Hid (∀u z,pairV oAdd a u z=reckonV oAdd a u z):=Hd (fun u z=>by unfold pairV;rw[if_neg (by decide),if_neg (by decide),if_pos (by simp)])
 have HU:Hid (askV (.mk oAdd a [p0,p1] nm t) v n=bindA (askV p0 v (n+1)) fun x m=>bindA (askV p1 v m) fun y k=>(pairV oAdd a x y,k)):=Hd (by rw[askV];unfold stepA;rw[if_neg (by omega),if_neg (by decide),if_neg (by decide),if_neg (by decide),if_neg (by decide),if_neg (by decide),if_neg (by decide),if_neg (by decide),if_neg (by decide),if_neg (by decide),if_neg (by decide),if_neg (by decide)];rfl)
 have ho':¬(1048576:Int)<(n:Int)+1:=by omega
 clear ih0 ih1 hp c0 hty
 generalize askV p0 v (n+1)=q at *
 generalize askV p1 v=fa1 at *
 obtain ⟨op',a',l',nm',t'⟩:=p0
 obtain ⟨A',c',y',rfl,-,-,-,hty',-⟩:=hxs
 obtain ⟨m0,m1,m2,m3,m4,m5,m6,m7,m8,m9,m10,rfl,h1c⟩:=hty'.elevenS
 obtain ⟨op2,a2,l2,nm2,t2⟩:=p1
 obtain ⟨A2,c2,y2,rfl,-,-,-,hty2,-⟩:=hxs1
 obtain ⟨j0,j1,j2,j3,j4,j5,j6,j7,j8,j9,j10,rfl,h2c⟩:=hty2.elevenS
 unfold termOf eV at *
 obtain ⟨q0,q1,q2,q3,q4,q5,q6,q7,q8,q9,q10,q11,q12,q13,q14⟩:=lie15 c1
 clear hty' h1c c1 hty2 h2c hv hw
 obtain ⟨ou,m'⟩:=q
 go_enter Tryz.func44,Tryz.ntmps44
 cases ou with
 | gone ga gw =>
  go_wp2_with fail
  refine HC.out.mono ?_
  rintro e w1 ⟨hA2,hH2,rfl⟩
  exact ⟨rfl,AskPost.gone_ (by rw[HU.out];rfl) (HA1.out.trans hA2) hH2⟩
 | val u =>
  go_wp2_with fail
  refine HC.out.mono ?_
  rintro e w1 ⟨hA2,hH2,uv,rfl,huv⟩
  have hz3:=hA2.size
  have hz4:w.heap.size+1≤w1.heap.size:=by have:=hA2.size;simp at this;omega
  have hA3:=HA1.out.trans hA2
  have hS2:Seen (fun b=>S b∨New ((w.setCell ⟨bw,0,none⟩ (.int .i64 ((n:Int)+1))).alloc (.cells #[.string oAdd,.int .i64 a,.slice (some ⟨bp,offp,none⟩) 2 c,.string nm,n0,n1,n2,n3,n4,n5,n6,n7,n8,n9,n10] 32)) w1 b) w1 bw:=hS1.more hbw1 hA2.size
  have hSN:∀b,(S b∨New ((w.setCell ⟨bw,0,none⟩ (.int .i64 ((n:Int)+1))).alloc (.cells #[.string oAdd,.int .i64 a,.slice (some ⟨bp,offp,none⟩) 2 c,.string nm,n0,n1,n2,n3,n4,n5,n6,n7,n8,n9,n10] 32)) w1 b)→S b∨New w w1 b:=fun b h=>h.imp id (fun h=>⟨Nat.le_trans HA1.out.size h.1,h.2⟩)
  have hbw2:bw<w1.heap.size:=by omega
  have qa:=fun (o:Nat)=>hA2.cell (p:=⟨w.heap.size,o,none⟩) (by simp) hne
  have hut:tameV u:=HTm.out u rfl
  have hm2:m'≤1048576:=HCnt.out u rfl
  have d1:=dd.keep (fun p hp=>hA3.cell (by rw[hp];exact (hS bp hSb).1) (by rw[hp];exact (hS bp hSb).2))
  have HC1:=Hd (HAsk1.out w1 _ m' hA3 hS2 (fun b h=>.inl h) hm2 hbw2 hH2)
  have HTz:=Hd (HTm1.out m')
  have HU2:=Hd (HU.out.trans (rfl:_=bindA (fa1 m') fun y k=>(pairV oAdd a u y,k)))
  clear q0 q1 q2 q3 q4 q5 q6 q7 q8 q9 q10 q11 q12 q13 q14 HU HTm HCnt HTm1 HAsk1 dd
  obtain ⟨q0,q1,q2,q3,q4,q5,q6,q7,q8,q9,q10,q11,q12,q13,q14⟩:=lie15 d1
  clear d1
  generalize fa1 m'=q2 at *
  obtain ⟨oz,k'⟩:=q2
  cases oz with
  | gone ga gw =>
   go_wp2_with fail
   refine HC1.out.mono ?_
   rintro e w2 ⟨hA4,hH4,rfl⟩
   exact ⟨rfl,AskPost.gone_ (by rw[HU2.out];rfl) (hA3.trans hA4) hH4⟩
  | val z =>
   go_wp2_with fail
   refine HC1.out.mono ?_
   rintro e w2 ⟨hA4,hH4,zv,rfl,hzv⟩
   have hA5:=hA3.trans hA4
   have hz5:=hA4.size
   have hzt:tameV z:=HTz.out z rfl
   have qb:=fun (o:Nat)=>(hA4.cell (p:=⟨w.heap.size,o,none⟩) (by show w.heap.size<w1.heap.size;omega) hne).trans (qa o)
   have hS3:=hS2.more hbw2 hA4.size
   have HHz:=Hd (HHe.out w2 _ u z uv zv (fun b h=>(hS3 b h).1) (RdS.more (fun b h=>.inl h) _ _ (huv.aside hS2 hA4)) hzv hut hzt)
   rw[←HPv.out]at HHz
   clear q0 q1 q2 q3 q4 q5 q6 q7 q8 q9 q10 q11 q12 q13 q14 HHe
   go_wp2_with fail
   refine HHz.out.mono ?_
   rintro e w9 hr9
   have hP:=AskPost.out (n:=k') (S:=S) hr9 hA5 (fun b h=>h.elim (fun h=>(hSN b h).imp id (fun h=>⟨h.1,Nat.lt_of_lt_of_le h.2 hz5⟩)) (fun h=>.inr ⟨Nat.le_trans hA3.size h.1,h.2⟩)) (by omega) hH4
   replace hP:=AskPost.eq_ HU2.out hP
   cases hg:pairV oAdd a u z with
   | val t9 =>
    rw[hg]at hr9
    obtain ⟨hb9,v9,rfl,hv9⟩:=hr9
    go_wp2
    go_ret
    exact hP
   | gone gb gw =>
    rw[hg]at hr9
    obtain ⟨hb9,rfl⟩:=hr9
    exact ⟨rfl,hP⟩
theorem ask_pSub (a:Int) (p0 p1:Ex) (nm:ByteArray) (t:Tm) (ih0:AskC p0) (ih1:AskC p1):AskC (.mk oSub a [p0,p1] nm t):=by
 intro x v vv n S w bw hS hbw hn hx hv ht hw hh
 by_cases hlim:1048576<n+1
 ·exact ask_over _ _ _ _ _ x v vv n S w bw hS hbw hn hx hh hlim
 obtain ⟨A,c,y,rfl,hops,ha,hns,hty,hll,hp⟩:=hx
 obtain ⟨bp,offp,xs,eA,hSb,c0,hxs⟩:=PartsS.get (k:=0) (x:=p0) hp rfl
 obtain ⟨bp1,offp1,ys,eB,hSb1,dd,hxs1⟩:=PartsS.get (k:=1) (x:=p1) hp rfl
 rw[eA]at eB
 injection eB with eB
 injection eB with eB1 eB2 _
 subst eB1
 subst eB2
 subst eA
 rw[Nat.zero_mul,Nat.add_zero]at c0
 rw[Nat.one_mul]at dd
 have hy:Eleven y:=hty.elevenS
 have HBad:=Hd (fun (W:World)=>bad_any oSub a (.slice (some ⟨bp,offp,none⟩) 2 c) nm y hy rfl W)
 have HHe:=Hd (fun (W:World) (S':Nat→Prop) (u z:V) (uv zv:Value) (hS':∀b,S' b→b<W.heap.size) (hu:RdS W S' u uv) (hz:RdS W S' z zv) (tu:tameV u) (tz:tameV z)=>reckon_sub_any a (.slice (some ⟨bp,offp,none⟩) 2 c) nm y hy rfl u z uv zv S' W hS' hu hz)
 obtain ⟨n0,n1,n2,n3,n4,n5,n6,n7,n8,n9,n10,rfl,h1c⟩:=hy
 clear h1c
 have hne:w.heap.size≠bw:=by omega
 have hh1:Hold (w.setCell ⟨bw,0,none⟩ (.int .i64 ((n:Int)+1))) bw 0 (.int .i64 ((n+1:Nat):Int)):=hh.set _
 have hbw0:bw<(w.setCell ⟨bw,0,none⟩ (.int .i64 ((n:Int)+1))).heap.size:=by simp;omega
 have hba:Below (w.setCell ⟨bw,0,none⟩ (.int .i64 ((n:Int)+1))).heap.size (w.setCell ⟨bw,0,none⟩ (.int .i64 ((n:Int)+1))) ((w.setCell ⟨bw,0,none⟩ (.int .i64 ((n:Int)+1))).alloc (.cells #[.string oSub,.int .i64 a,.slice (some ⟨bp,offp,none⟩) 2 c,.string nm,n0,n1,n2,n3,n4,n5,n6,n7,n8,n9,n10] 32)):=bnew
 have HA1:Hid (Aside bw w ((w.setCell ⟨bw,0,none⟩ (.int .i64 ((n:Int)+1))).alloc (.cells #[.string oSub,.int .i64 a,.slice (some ⟨bp,offp,none⟩) 2 c,.string nm,n0,n1,n2,n3,n4,n5,n6,n7,n8,n9,n10] 32))):=Hd ((Aside.set 0 _).trans (Aside.of_below hba))
 have HH1:Hid (Hold ((w.setCell ⟨bw,0,none⟩ (.int .i64 ((n:Int)+1))).alloc (.cells #[.string oSub,.int .i64 a,.slice (some ⟨bp,offp,none⟩) 2 c,.string nm,n0,n1,n2,n3,n4,n5,n6,n7,n8,n9,n10] 32)) bw 0 (.int .i64 ((n+1:Nat):Int))):=Hd (hh1.below hba hbw0)
 have e0:wrap64 ((n:Int)+1)=(n:Int)+1:=by unfold wrap64;omega
 obtain ⟨hc0,hf0⟩:=hh
 have hc1:(w.setCell ⟨bw,0,none⟩ (.int .i64 ((n:Int)+1))).cell? ⟨bw,0,none⟩=some (.int .i64 ((n:Int)+1)):=hh1.1
 have hbw1:bw<((w.setCell ⟨bw,0,none⟩ (.int .i64 ((n:Int)+1))).alloc (.cells #[.string oSub,.int .i64 a,.slice (some ⟨bp,offp,none⟩) 2 c,.string nm,n0,n1,n2,n3,n4,n5,n6,n7,n8,n9,n10] 32)).heap.size:=by simp;omega
 have hS1:Seen S ((w.setCell ⟨bw,0,none⟩ (.int .i64 ((n:Int)+1))).alloc (.cells #[.string oSub,.int .i64 a,.slice (some ⟨bp,offp,none⟩) 2 c,.string nm,n0,n1,n2,n3,n4,n5,n6,n7,n8,n9,n10] 32)) bw:=hS.to HA1.out.size
 clear hh1 hba
 have c1:=c0.keep (fun p hp=>HA1.out.cell (by rw[hp];exact (hS bp hSb).1) (by rw[hp];exact (hS bp hSb).2))
 have HC:=Hd (ih0 xs v vv (n+1) S ((w.setCell ⟨bw,0,none⟩ (.int .i64 ((n:Int)+1))).alloc (.cells #[.string oSub,.int .i64 a,.slice (some ⟨bp,offp,none⟩) 2 c,.string nm,n0,n1,n2,n3,n4,n5,n6,n7,n8,n9,n10] 32)) bw hS1 hbw1 (by omega) (hxs.aside hS HA1.out) (hv.aside hS HA1.out) ht (hw.aside hS HA1.out) HH1.out)
 have HAsk1:=Hd (fun (w1:World) (S2:Nat→Prop) (m:Nat) (hA:Aside bw w w1) (hS2:Seen S2 w1 bw) (hSI:∀b,S b→S2 b) (hm:m≤1048576) (hbw:bw<w1.heap.size) (hH:Hold w1 bw 0 (.int .i64 m))=>ih1 ys v vv m S2 w1 bw hS2 hbw hm (RdES.more hSI _ _ (hxs1.aside hS hA)) (RdS.more hSI _ _ (hv.aside hS hA)) ht ((hw.aside hS hA).more hSI) hH)
 have HTm:=Hd (ask_tame p0 v (n+1) ht)
 have HCnt:=Hd (ask_count p0 v (n+1) (by omega))
 have HTm1:=Hd (fun m=>ask_tame p1 v m ht)
 have HPv:Hid (∀u z,pairV oSub a u z=reckonV oSub a u z):=Hd (fun u z=>by unfold pairV;rw[if_neg (by decide),if_neg (by decide),if_pos (by simp)])
 have HU:Hid (askV (.mk oSub a [p0,p1] nm t) v n=bindA (askV p0 v (n+1)) fun x m=>bindA (askV p1 v m) fun y k=>(pairV oSub a x y,k)):=Hd (by rw[askV];unfold stepA;rw[if_neg (by omega),if_neg (by decide),if_neg (by decide),if_neg (by decide),if_neg (by decide),if_neg (by decide),if_neg (by decide),if_neg (by decide),if_neg (by decide),if_neg (by decide),if_neg (by decide),if_neg (by decide)];rfl)
 have ho':¬(1048576:Int)<(n:Int)+1:=by omega
 clear ih0 ih1 hp c0 hty
 generalize askV p0 v (n+1)=q at *
 generalize askV p1 v=fa1 at *
 obtain ⟨op',a',l',nm',t'⟩:=p0
 obtain ⟨A',c',y',rfl,-,-,-,hty',-⟩:=hxs
 obtain ⟨m0,m1,m2,m3,m4,m5,m6,m7,m8,m9,m10,rfl,h1c⟩:=hty'.elevenS
 obtain ⟨op2,a2,l2,nm2,t2⟩:=p1
 obtain ⟨A2,c2,y2,rfl,-,-,-,hty2,-⟩:=hxs1
 obtain ⟨j0,j1,j2,j3,j4,j5,j6,j7,j8,j9,j10,rfl,h2c⟩:=hty2.elevenS
 unfold termOf eV at *
 obtain ⟨q0,q1,q2,q3,q4,q5,q6,q7,q8,q9,q10,q11,q12,q13,q14⟩:=lie15 c1
 clear hty' h1c c1 hty2 h2c hv hw
 obtain ⟨ou,m'⟩:=q
 go_enter Tryz.func44,Tryz.ntmps44
 cases ou with
 | gone ga gw =>
  go_wp2_with fail
  refine HC.out.mono ?_
  rintro e w1 ⟨hA2,hH2,rfl⟩
  exact ⟨rfl,AskPost.gone_ (by rw[HU.out];rfl) (HA1.out.trans hA2) hH2⟩
 | val u =>
  go_wp2_with fail
  refine HC.out.mono ?_
  rintro e w1 ⟨hA2,hH2,uv,rfl,huv⟩
  have hz3:=hA2.size
  have hz4:w.heap.size+1≤w1.heap.size:=by have:=hA2.size;simp at this;omega
  have hA3:=HA1.out.trans hA2
  have hS2:Seen (fun b=>S b∨New ((w.setCell ⟨bw,0,none⟩ (.int .i64 ((n:Int)+1))).alloc (.cells #[.string oSub,.int .i64 a,.slice (some ⟨bp,offp,none⟩) 2 c,.string nm,n0,n1,n2,n3,n4,n5,n6,n7,n8,n9,n10] 32)) w1 b) w1 bw:=hS1.more hbw1 hA2.size
  have hSN:∀b,(S b∨New ((w.setCell ⟨bw,0,none⟩ (.int .i64 ((n:Int)+1))).alloc (.cells #[.string oSub,.int .i64 a,.slice (some ⟨bp,offp,none⟩) 2 c,.string nm,n0,n1,n2,n3,n4,n5,n6,n7,n8,n9,n10] 32)) w1 b)→S b∨New w w1 b:=fun b h=>h.imp id (fun h=>⟨Nat.le_trans HA1.out.size h.1,h.2⟩)
  have hbw2:bw<w1.heap.size:=by omega
  have qa:=fun (o:Nat)=>hA2.cell (p:=⟨w.heap.size,o,none⟩) (by simp) hne
  have hut:tameV u:=HTm.out u rfl
  have hm2:m'≤1048576:=HCnt.out u rfl
  have d1:=dd.keep (fun p hp=>hA3.cell (by rw[hp];exact (hS bp hSb).1) (by rw[hp];exact (hS bp hSb).2))
  have HC1:=Hd (HAsk1.out w1 _ m' hA3 hS2 (fun b h=>.inl h) hm2 hbw2 hH2)
  have HTz:=Hd (HTm1.out m')
  have HU2:=Hd (HU.out.trans (rfl:_=bindA (fa1 m') fun y k=>(pairV oSub a u y,k)))
  clear q0 q1 q2 q3 q4 q5 q6 q7 q8 q9 q10 q11 q12 q13 q14 HU HTm HCnt HTm1 HAsk1 dd
  obtain ⟨q0,q1,q2,q3,q4,q5,q6,q7,q8,q9,q10,q11,q12,q13,q14⟩:=lie15 d1
  clear d1
  generalize fa1 m'=q2 at *
  obtain ⟨oz,k'⟩:=q2
  cases oz with
  | gone ga gw =>
   go_wp2_with fail
   refine HC1.out.mono ?_
   rintro e w2 ⟨hA4,hH4,rfl⟩
   exact ⟨rfl,AskPost.gone_ (by rw[HU2.out];rfl) (hA3.trans hA4) hH4⟩
  | val z =>
   go_wp2_with fail
   refine HC1.out.mono ?_
   rintro e w2 ⟨hA4,hH4,zv,rfl,hzv⟩
   have hA5:=hA3.trans hA4
   have hz5:=hA4.size
   have hzt:tameV z:=HTz.out z rfl
   have qb:=fun (o:Nat)=>(hA4.cell (p:=⟨w.heap.size,o,none⟩) (by show w.heap.size<w1.heap.size;omega) hne).trans (qa o)
   have hS3:=hS2.more hbw2 hA4.size
   have HHz:=Hd (HHe.out w2 _ u z uv zv (fun b h=>(hS3 b h).1) (RdS.more (fun b h=>.inl h) _ _ (huv.aside hS2 hA4)) hzv hut hzt)
   rw[←HPv.out]at HHz
   clear q0 q1 q2 q3 q4 q5 q6 q7 q8 q9 q10 q11 q12 q13 q14 HHe
   go_wp2_with fail
   refine HHz.out.mono ?_
   rintro e w9 hr9
   have hP:=AskPost.out (n:=k') (S:=S) hr9 hA5 (fun b h=>h.elim (fun h=>(hSN b h).imp id (fun h=>⟨h.1,Nat.lt_of_lt_of_le h.2 hz5⟩)) (fun h=>.inr ⟨Nat.le_trans hA3.size h.1,h.2⟩)) (by omega) hH4
   replace hP:=AskPost.eq_ HU2.out hP
   cases hg:pairV oSub a u z with
   | val t9 =>
    rw[hg]at hr9
    obtain ⟨hb9,v9,rfl,hv9⟩:=hr9
    go_wp2
    go_ret
    exact hP
   | gone gb gw =>
    rw[hg]at hr9
    obtain ⟨hb9,rfl⟩:=hr9
    exact ⟨rfl,hP⟩
theorem ask_pMul (a:Int) (p0 p1:Ex) (nm:ByteArray) (t:Tm) (ih0:AskC p0) (ih1:AskC p1):AskC (.mk oMul a [p0,p1] nm t):=by
 intro x v vv n S w bw hS hbw hn hx hv ht hw hh
 by_cases hlim:1048576<n+1
 ·exact ask_over _ _ _ _ _ x v vv n S w bw hS hbw hn hx hh hlim
 obtain ⟨A,c,y,rfl,hops,ha,hns,hty,hll,hp⟩:=hx
 obtain ⟨bp,offp,xs,eA,hSb,c0,hxs⟩:=PartsS.get (k:=0) (x:=p0) hp rfl
 obtain ⟨bp1,offp1,ys,eB,hSb1,dd,hxs1⟩:=PartsS.get (k:=1) (x:=p1) hp rfl
 rw[eA]at eB
 injection eB with eB
 injection eB with eB1 eB2 _
 subst eB1
 subst eB2
 subst eA
 rw[Nat.zero_mul,Nat.add_zero]at c0
 rw[Nat.one_mul]at dd
 have hy:Eleven y:=hty.elevenS
 have HBad:=Hd (fun (W:World)=>bad_any oMul a (.slice (some ⟨bp,offp,none⟩) 2 c) nm y hy rfl W)
 have HHe:=Hd (fun (W:World) (S':Nat→Prop) (u z:V) (uv zv:Value) (hS':∀b,S' b→b<W.heap.size) (hu:RdS W S' u uv) (hz:RdS W S' z zv) (tu:tameV u) (tz:tameV z)=>reckon_mul_any a (.slice (some ⟨bp,offp,none⟩) 2 c) nm y hy rfl u z uv zv S' W hS' hu hz)
 obtain ⟨n0,n1,n2,n3,n4,n5,n6,n7,n8,n9,n10,rfl,h1c⟩:=hy
 clear h1c
 have hne:w.heap.size≠bw:=by omega
 have hh1:Hold (w.setCell ⟨bw,0,none⟩ (.int .i64 ((n:Int)+1))) bw 0 (.int .i64 ((n+1:Nat):Int)):=hh.set _
 have hbw0:bw<(w.setCell ⟨bw,0,none⟩ (.int .i64 ((n:Int)+1))).heap.size:=by simp;omega
 have hba:Below (w.setCell ⟨bw,0,none⟩ (.int .i64 ((n:Int)+1))).heap.size (w.setCell ⟨bw,0,none⟩ (.int .i64 ((n:Int)+1))) ((w.setCell ⟨bw,0,none⟩ (.int .i64 ((n:Int)+1))).alloc (.cells #[.string oMul,.int .i64 a,.slice (some ⟨bp,offp,none⟩) 2 c,.string nm,n0,n1,n2,n3,n4,n5,n6,n7,n8,n9,n10] 32)):=bnew
 have HA1:Hid (Aside bw w ((w.setCell ⟨bw,0,none⟩ (.int .i64 ((n:Int)+1))).alloc (.cells #[.string oMul,.int .i64 a,.slice (some ⟨bp,offp,none⟩) 2 c,.string nm,n0,n1,n2,n3,n4,n5,n6,n7,n8,n9,n10] 32))):=Hd ((Aside.set 0 _).trans (Aside.of_below hba))
 have HH1:Hid (Hold ((w.setCell ⟨bw,0,none⟩ (.int .i64 ((n:Int)+1))).alloc (.cells #[.string oMul,.int .i64 a,.slice (some ⟨bp,offp,none⟩) 2 c,.string nm,n0,n1,n2,n3,n4,n5,n6,n7,n8,n9,n10] 32)) bw 0 (.int .i64 ((n+1:Nat):Int))):=Hd (hh1.below hba hbw0)
 have e0:wrap64 ((n:Int)+1)=(n:Int)+1:=by unfold wrap64;omega
 obtain ⟨hc0,hf0⟩:=hh
 have hc1:(w.setCell ⟨bw,0,none⟩ (.int .i64 ((n:Int)+1))).cell? ⟨bw,0,none⟩=some (.int .i64 ((n:Int)+1)):=hh1.1
 have hbw1:bw<((w.setCell ⟨bw,0,none⟩ (.int .i64 ((n:Int)+1))).alloc (.cells #[.string oMul,.int .i64 a,.slice (some ⟨bp,offp,none⟩) 2 c,.string nm,n0,n1,n2,n3,n4,n5,n6,n7,n8,n9,n10] 32)).heap.size:=by simp;omega
 have hS1:Seen S ((w.setCell ⟨bw,0,none⟩ (.int .i64 ((n:Int)+1))).alloc (.cells #[.string oMul,.int .i64 a,.slice (some ⟨bp,offp,none⟩) 2 c,.string nm,n0,n1,n2,n3,n4,n5,n6,n7,n8,n9,n10] 32)) bw:=hS.to HA1.out.size
 clear hh1 hba
 have c1:=c0.keep (fun p hp=>HA1.out.cell (by rw[hp];exact (hS bp hSb).1) (by rw[hp];exact (hS bp hSb).2))
 have HC:=Hd (ih0 xs v vv (n+1) S ((w.setCell ⟨bw,0,none⟩ (.int .i64 ((n:Int)+1))).alloc (.cells #[.string oMul,.int .i64 a,.slice (some ⟨bp,offp,none⟩) 2 c,.string nm,n0,n1,n2,n3,n4,n5,n6,n7,n8,n9,n10] 32)) bw hS1 hbw1 (by omega) (hxs.aside hS HA1.out) (hv.aside hS HA1.out) ht (hw.aside hS HA1.out) HH1.out)
 have HAsk1:=Hd (fun (w1:World) (S2:Nat→Prop) (m:Nat) (hA:Aside bw w w1) (hS2:Seen S2 w1 bw) (hSI:∀b,S b→S2 b) (hm:m≤1048576) (hbw:bw<w1.heap.size) (hH:Hold w1 bw 0 (.int .i64 m))=>ih1 ys v vv m S2 w1 bw hS2 hbw hm (RdES.more hSI _ _ (hxs1.aside hS hA)) (RdS.more hSI _ _ (hv.aside hS hA)) ht ((hw.aside hS hA).more hSI) hH)
 have HTm:=Hd (ask_tame p0 v (n+1) ht)
 have HCnt:=Hd (ask_count p0 v (n+1) (by omega))
 have HTm1:=Hd (fun m=>ask_tame p1 v m ht)
 have HPv:Hid (∀u z,pairV oMul a u z=reckonV oMul a u z):=Hd (fun u z=>by unfold pairV;rw[if_neg (by decide),if_neg (by decide),if_pos (by simp)])
 have HU:Hid (askV (.mk oMul a [p0,p1] nm t) v n=bindA (askV p0 v (n+1)) fun x m=>bindA (askV p1 v m) fun y k=>(pairV oMul a x y,k)):=Hd (by rw[askV];unfold stepA;rw[if_neg (by omega),if_neg (by decide),if_neg (by decide),if_neg (by decide),if_neg (by decide),if_neg (by decide),if_neg (by decide),if_neg (by decide),if_neg (by decide),if_neg (by decide),if_neg (by decide),if_neg (by decide)];rfl)
 have ho':¬(1048576:Int)<(n:Int)+1:=by omega
 clear ih0 ih1 hp c0 hty
 generalize askV p0 v (n+1)=q at *
 generalize askV p1 v=fa1 at *
 obtain ⟨op',a',l',nm',t'⟩:=p0
 obtain ⟨A',c',y',rfl,-,-,-,hty',-⟩:=hxs
 obtain ⟨m0,m1,m2,m3,m4,m5,m6,m7,m8,m9,m10,rfl,h1c⟩:=hty'.elevenS
 obtain ⟨op2,a2,l2,nm2,t2⟩:=p1
 obtain ⟨A2,c2,y2,rfl,-,-,-,hty2,-⟩:=hxs1
 obtain ⟨j0,j1,j2,j3,j4,j5,j6,j7,j8,j9,j10,rfl,h2c⟩:=hty2.elevenS
 unfold termOf eV at *
 obtain ⟨q0,q1,q2,q3,q4,q5,q6,q7,q8,q9,q10,q11,q12,q13,q14⟩:=lie15 c1
 clear hty' h1c c1 hty2 h2c hv hw
 obtain ⟨ou,m'⟩:=q
 go_enter Tryz.func44,Tryz.ntmps44
 cases ou with
 | gone ga gw =>
  go_wp2_with fail
  refine HC.out.mono ?_
  rintro e w1 ⟨hA2,hH2,rfl⟩
  exact ⟨rfl,AskPost.gone_ (by rw[HU.out];rfl) (HA1.out.trans hA2) hH2⟩
 | val u =>
  go_wp2_with fail
  refine HC.out.mono ?_
  rintro e w1 ⟨hA2,hH2,uv,rfl,huv⟩
  have hz3:=hA2.size
  have hz4:w.heap.size+1≤w1.heap.size:=by have:=hA2.size;simp at this;omega
  have hA3:=HA1.out.trans hA2
  have hS2:Seen (fun b=>S b∨New ((w.setCell ⟨bw,0,none⟩ (.int .i64 ((n:Int)+1))).alloc (.cells #[.string oMul,.int .i64 a,.slice (some ⟨bp,offp,none⟩) 2 c,.string nm,n0,n1,n2,n3,n4,n5,n6,n7,n8,n9,n10] 32)) w1 b) w1 bw:=hS1.more hbw1 hA2.size
  have hSN:∀b,(S b∨New ((w.setCell ⟨bw,0,none⟩ (.int .i64 ((n:Int)+1))).alloc (.cells #[.string oMul,.int .i64 a,.slice (some ⟨bp,offp,none⟩) 2 c,.string nm,n0,n1,n2,n3,n4,n5,n6,n7,n8,n9,n10] 32)) w1 b)→S b∨New w w1 b:=fun b h=>h.imp id (fun h=>⟨Nat.le_trans HA1.out.size h.1,h.2⟩)
  have hbw2:bw<w1.heap.size:=by omega
  have qa:=fun (o:Nat)=>hA2.cell (p:=⟨w.heap.size,o,none⟩) (by simp) hne
  have hut:tameV u:=HTm.out u rfl
  have hm2:m'≤1048576:=HCnt.out u rfl
  have d1:=dd.keep (fun p hp=>hA3.cell (by rw[hp];exact (hS bp hSb).1) (by rw[hp];exact (hS bp hSb).2))
  have HC1:=Hd (HAsk1.out w1 _ m' hA3 hS2 (fun b h=>.inl h) hm2 hbw2 hH2)
  have HTz:=Hd (HTm1.out m')
  have HU2:=Hd (HU.out.trans (rfl:_=bindA (fa1 m') fun y k=>(pairV oMul a u y,k)))
  clear q0 q1 q2 q3 q4 q5 q6 q7 q8 q9 q10 q11 q12 q13 q14 HU HTm HCnt HTm1 HAsk1 dd
  obtain ⟨q0,q1,q2,q3,q4,q5,q6,q7,q8,q9,q10,q11,q12,q13,q14⟩:=lie15 d1
  clear d1
  generalize fa1 m'=q2 at *
  obtain ⟨oz,k'⟩:=q2
  cases oz with
  | gone ga gw =>
   go_wp2_with fail
   refine HC1.out.mono ?_
   rintro e w2 ⟨hA4,hH4,rfl⟩
   exact ⟨rfl,AskPost.gone_ (by rw[HU2.out];rfl) (hA3.trans hA4) hH4⟩
  | val z =>
   go_wp2_with fail
   refine HC1.out.mono ?_
   rintro e w2 ⟨hA4,hH4,zv,rfl,hzv⟩
   have hA5:=hA3.trans hA4
   have hz5:=hA4.size
   have hzt:tameV z:=HTz.out z rfl
   have qb:=fun (o:Nat)=>(hA4.cell (p:=⟨w.heap.size,o,none⟩) (by show w.heap.size<w1.heap.size;omega) hne).trans (qa o)
   have hS3:=hS2.more hbw2 hA4.size
   have HHz:=Hd (HHe.out w2 _ u z uv zv (fun b h=>(hS3 b h).1) (RdS.more (fun b h=>.inl h) _ _ (huv.aside hS2 hA4)) hzv hut hzt)
   rw[←HPv.out]at HHz
   clear q0 q1 q2 q3 q4 q5 q6 q7 q8 q9 q10 q11 q12 q13 q14 HHe
   go_wp2_with fail
   refine HHz.out.mono ?_
   rintro e w9 hr9
   have hP:=AskPost.out (n:=k') (S:=S) hr9 hA5 (fun b h=>h.elim (fun h=>(hSN b h).imp id (fun h=>⟨h.1,Nat.lt_of_lt_of_le h.2 hz5⟩)) (fun h=>.inr ⟨Nat.le_trans hA3.size h.1,h.2⟩)) (by omega) hH4
   replace hP:=AskPost.eq_ HU2.out hP
   cases hg:pairV oMul a u z with
   | val t9 =>
    rw[hg]at hr9
    obtain ⟨hb9,v9,rfl,hv9⟩:=hr9
    go_wp2
    go_ret
    exact hP
   | gone gb gw =>
    rw[hg]at hr9
    obtain ⟨hb9,rfl⟩:=hr9
    exact ⟨rfl,hP⟩
end Go.Proofs.YtbemeapjeipjlaaGreatDoor
