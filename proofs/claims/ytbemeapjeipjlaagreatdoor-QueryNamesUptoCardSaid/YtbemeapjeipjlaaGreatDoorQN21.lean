/- Walks: query.walk.call that turns. -/
import Derived.Test.YtbemeapjeipjlaaGreatDoorQN19
set_option linter.unusedVariables false
set_option linter.unusedSimpArgs false
namespace Go.Proofs.YtbemeapjeipjlaaGreatDoor
open Go Go.RowKit
set_option maxRecDepth 100000
set_option maxHeartbeats 8000000
attribute [local go_sem] ta_no_bool ta_yes_bool ta_nil_bool ta_no_int64 ta_yes_int64 ta_nil_int64 ta_no_flt ta_yes_flt ta_nil_flt ta_no_str ta_yes_str ta_nil_str ta_no_byt ta_yes_byt ta_nil_byt ta_no_ref ta_yes_ref ta_nil_ref ta_no_lst ta_yes_lst ta_nil_lst ta_no_dct ta_yes_dct ta_nil_dct ta_no_rec ta_yes_rec ta_nil_rec
theorem call_any (a:Int) (p0 p1:Ex) (A:Option Addr) (c:Nat) (y:List Value) (hy:Eleven y) (ih0:AskC p0) (ih1:AskC p1) (v:V) (vv:Value) (n:Nat) (S:Nat→Prop) (w:World) (bw:Nat)
  (hS:Seen S w bw) (hbw:bw<w.heap.size) (hn:n≤1048576) (hp:PartsS w S A [p0,p1]) (hv:RdS w S v vv) (ht:tameV v) (hw:Words w S 1 kindWords) (hh:Hold w bw 0 (.int .i64 n)) :
  Calls Tryz.prog 66 #[.pointer (some ⟨bw,0,none⟩),eV oCall a (.slice A 2 c) gAny y,vv] w (AskPost S bw (callA gAny a (askL [p0,p1]) v n) w):=by
 have HBad:=Hd (fun (W:World)=>bad_any oCall a (.slice A 2 c) gAny y hy rfl W)
 have HGood:=Hd (fun (x:V) (u:Value) (S':Nat→Prop) (W:World)=>good_any oCall a (.slice A 2 c) gAny y hy rfl x u S' W)
 have HEach:=Hd (fun (w1:World) (l:List V) (Al:Option Addr) (cl m:Nat) (S1:Nat→Prop) (hA:Aside bw w w1) (hS1:Seen S1 w1 bw) (hSI:∀b,S b→S1 b) (hm:m≤1048576) (hll:l.length≤1099511627776) (hl:ListS w1 S1 Al l) (ht:tameL l) (hbw1:bw<w1.heap.size) (hH:Hold w1 bw 0 (.int .i64 m)) =>
  each_any a p0 p1 A c y hy ih1 l Al cl m S1 w1 bw hS1 hbw1 hm (PartsS.moreS (hp.asideS hS hA) hSI) hll hl ht ((hw.aside hS hA).more hSI) hH)
 obtain ⟨n0,n1,n2,n3,n4,n5,n6,n7,n8,n9,n10,rfl,h1⟩:=hy
 clear h1
 unfold eV at *
 have HB:Hid (Below w.heap.size w (w.alloc (.cells #[.string oCall,.int .i64 a,.slice A 2 c,.string gAny,n0,n1,n2,n3,n4,n5,n6,n7,n8,n9,n10] 32))):=Hd bnew
 have HA0:Hid (Aside bw w (w.alloc (.cells #[.string oCall,.int .i64 a,.slice A 2 c,.string gAny,n0,n1,n2,n3,n4,n5,n6,n7,n8,n9,n10] 32))):=Hd (Aside.of_below HB.out)
 obtain ⟨bp,offp,xs,eA,hSb,c0,hxs⟩:=hp.get (k:=0) (x:=p0) rfl
 subst eA
 rw[Nat.zero_mul,Nat.add_zero]at c0
 have c1:=c0.keep (fun p hp=>HB.out.cell (by rw[hp];exact (hS bp hSb).1))
 have HC:=Hd (ih0 xs v vv n S _ bw (hS.to HB.out.size) (Nat.lt_of_lt_of_le hbw HB.out.size) hn (hxs.aside hS HA0.out) (hv.aside hS HA0.out) ht (hw.aside hS HA0.out) (hh.below HB.out hbw))
 have HCnt:=Hd (ask_count p0 v n hn)
 have HTm:=Hd (ask_tame p0 v n ht)
 have HU:Hid (callA gAny a (askL [p0,p1]) v n=bindA (askV p0 v n) fun x m=>(match x with | .list xs=>eachA gAny a (askV p1) xs [] m|_=>(.gone a 172,m))):=Hd (by unfold callA;refine congrArg (bindA _) ?_;funext x m;rfl)
 have hne:w.heap.size≠bw:=by omega
 clear ih0 hp hh c0
 generalize askV p0 v n=q at *
 obtain ⟨op',a',l',nm',t'⟩:=p0
 obtain ⟨A',c',y',rfl,-,-,-,hty,-⟩:=hxs
 obtain ⟨m0,m1,m2,m3,m4,m5,m6,m7,m8,m9,m10,rfl,h1c⟩:=hty.elevenS
 unfold termOf at HC
 obtain ⟨q0,q1,q2,q3,q4,q5,q6,q7,q8,q9,q10,q11,q12,q13,q14⟩:=lie15 c1
 clear hty h1c c1
 obtain ⟨ou,m'⟩:=q
 go_enter Tryz.func66,Tryz.ntmps66
 cases ou with
 | gone ga gw =>
  go_wp2_with fail
  refine HC.out.mono ?_
  rintro e w1 ⟨hA2,hH2,rfl⟩
  exact ⟨rfl,AskPost.gone_ (by rw[HU.out];rfl) (HA0.out.trans hA2) hH2⟩
 | val u =>
  have hm2:m'≤1048576:=HCnt.out u rfl
  have hut:tameV u:=HTm.out u rfl
  have HU2:=Hd (HU.out.trans rfl)
  clear HCnt HTm HU
  go_wp2_with fail
  refine HC.out.mono ?_
  rintro e w1 ⟨hA2,hH2,uv,rfl,huv⟩
  have hA3:=HA0.out.trans hA2
  have hz3:=hA3.size
  have hz4:w.heap.size+1≤w1.heap.size:=by have:=hA2.size;simp at this;omega
  have hS1:Seen (fun b=>S b∨New (w.alloc (.cells #[.string oCall,.int .i64 a,.slice (some ⟨bp,offp,none⟩) 2 c,.string gAny,n0,n1,n2,n3,n4,n5,n6,n7,n8,n9,n10] 32)) w1 b) w1 bw:=(hS.to HB.out.size).more (Nat.lt_of_lt_of_le hbw HB.out.size) hA2.size
  have hSN:∀b,(S b∨New (w.alloc (.cells #[.string oCall,.int .i64 a,.slice (some ⟨bp,offp,none⟩) 2 c,.string gAny,n0,n1,n2,n3,n4,n5,n6,n7,n8,n9,n10] 32)) w1 b)→S b∨New w w1 b:=fun b h=>h.imp id (fun h=>⟨Nat.le_trans HB.out.size h.1,h.2⟩)
  have hbw1:bw<w1.heap.size:=by omega
  have qe:=fun (o:Nat)=>hA2.cell (p:=⟨w.heap.size,o,none⟩) (by simp) hne
  have HTu:=Hd (turns_gAny w1)
  go_wp2_with fail
  refine HTu.out.mono ?_
  rintro e w2 ⟨rfl,rfl⟩
  have hSI:∀b,S b→(S b∨New (w.alloc (.cells #[.string oCall,.int .i64 a,.slice (some ⟨bp,offp,none⟩) 2 c,.string gAny,n0,n1,n2,n3,n4,n5,n6,n7,n8,n9,n10] 32)) w1 b):=fun b h=>.inl h
  by_cases h8:kindV u=8
  ·obtain ⟨l,rfl⟩:=kind_is_list h8
   obtain ⟨Al,cl,rfl,hll,-,hl⟩:=huv
   have HEa:=Hd (HEach.out w1 l Al cl m' _ hA3 hS1 hSI hm2 hll hl hut.2 hbw1 hH2)
   clear hl
   go_wp2_with fail
   refine HEa.out.mono ?_
   rintro e w9 hr9
   have hP:=AskPost.chain hr9 hA3 hSN
   replace hP:=AskPost.eq_ HU2.out hP
   obtain ⟨hA9,hH9,h9⟩:=hr9
   generalize eachA gAny a (askV p1) l [] m'=r9 at *
   obtain ⟨o9,m9⟩:=r9
   cases o9 with
   | val t =>
    obtain ⟨v9,rfl,hv9⟩:=h9
    go_wp2
    go_ret
    exact hP
   | gone gb gw =>
    obtain rfl:=h9
    exact ⟨rfl,hP⟩
  ·have k0:=fun (W:World)=>not_list huv 20 W h8
   go_wp2_with fail
   refine (HBad.out _).mono ?_
   rintro e w9 ⟨rfl,hb9⟩
   exact ⟨rfl,AskPost.gone_ (by rw[HU2.out];cases u <;> first|rfl|exact absurd rfl h8) (hA3.trans (Aside.of_below hb9)) (hH2.below hb9 hbw1)⟩
theorem call_all (a:Int) (p0 p1:Ex) (A:Option Addr) (c:Nat) (y:List Value) (hy:Eleven y) (ih0:AskC p0) (ih1:AskC p1) (v:V) (vv:Value) (n:Nat) (S:Nat→Prop) (w:World) (bw:Nat)
  (hS:Seen S w bw) (hbw:bw<w.heap.size) (hn:n≤1048576) (hp:PartsS w S A [p0,p1]) (hv:RdS w S v vv) (ht:tameV v) (hw:Words w S 1 kindWords) (hh:Hold w bw 0 (.int .i64 n)) :
  Calls Tryz.prog 66 #[.pointer (some ⟨bw,0,none⟩),eV oCall a (.slice A 2 c) gAll y,vv] w (AskPost S bw (callA gAll a (askL [p0,p1]) v n) w):=by
 have HBad:=Hd (fun (W:World)=>bad_any oCall a (.slice A 2 c) gAll y hy rfl W)
 have HGood:=Hd (fun (x:V) (u:Value) (S':Nat→Prop) (W:World)=>good_any oCall a (.slice A 2 c) gAll y hy rfl x u S' W)
 have HEach:=Hd (fun (w1:World) (l:List V) (Al:Option Addr) (cl m:Nat) (S1:Nat→Prop) (hA:Aside bw w w1) (hS1:Seen S1 w1 bw) (hSI:∀b,S b→S1 b) (hm:m≤1048576) (hll:l.length≤1099511627776) (hl:ListS w1 S1 Al l) (ht:tameL l) (hbw1:bw<w1.heap.size) (hH:Hold w1 bw 0 (.int .i64 m)) =>
  each_all a p0 p1 A c y hy ih1 l Al cl m S1 w1 bw hS1 hbw1 hm (PartsS.moreS (hp.asideS hS hA) hSI) hll hl ht ((hw.aside hS hA).more hSI) hH)
 obtain ⟨n0,n1,n2,n3,n4,n5,n6,n7,n8,n9,n10,rfl,h1⟩:=hy
 clear h1
 unfold eV at *
 have HB:Hid (Below w.heap.size w (w.alloc (.cells #[.string oCall,.int .i64 a,.slice A 2 c,.string gAll,n0,n1,n2,n3,n4,n5,n6,n7,n8,n9,n10] 32))):=Hd bnew
 have HA0:Hid (Aside bw w (w.alloc (.cells #[.string oCall,.int .i64 a,.slice A 2 c,.string gAll,n0,n1,n2,n3,n4,n5,n6,n7,n8,n9,n10] 32))):=Hd (Aside.of_below HB.out)
 obtain ⟨bp,offp,xs,eA,hSb,c0,hxs⟩:=hp.get (k:=0) (x:=p0) rfl
 subst eA
 rw[Nat.zero_mul,Nat.add_zero]at c0
 have c1:=c0.keep (fun p hp=>HB.out.cell (by rw[hp];exact (hS bp hSb).1))
 have HC:=Hd (ih0 xs v vv n S _ bw (hS.to HB.out.size) (Nat.lt_of_lt_of_le hbw HB.out.size) hn (hxs.aside hS HA0.out) (hv.aside hS HA0.out) ht (hw.aside hS HA0.out) (hh.below HB.out hbw))
 have HCnt:=Hd (ask_count p0 v n hn)
 have HTm:=Hd (ask_tame p0 v n ht)
 have HU:Hid (callA gAll a (askL [p0,p1]) v n=bindA (askV p0 v n) fun x m=>(match x with | .list xs=>eachA gAll a (askV p1) xs [] m|_=>(.gone a 172,m))):=Hd (by unfold callA;refine congrArg (bindA _) ?_;funext x m;rfl)
 have hne:w.heap.size≠bw:=by omega
 clear ih0 hp hh c0
 generalize askV p0 v n=q at *
 obtain ⟨op',a',l',nm',t'⟩:=p0
 obtain ⟨A',c',y',rfl,-,-,-,hty,-⟩:=hxs
 obtain ⟨m0,m1,m2,m3,m4,m5,m6,m7,m8,m9,m10,rfl,h1c⟩:=hty.elevenS
 unfold termOf at HC
 obtain ⟨q0,q1,q2,q3,q4,q5,q6,q7,q8,q9,q10,q11,q12,q13,q14⟩:=lie15 c1
 clear hty h1c c1
 obtain ⟨ou,m'⟩:=q
 go_enter Tryz.func66,Tryz.ntmps66
 cases ou with
 | gone ga gw =>
  go_wp2_with fail
  refine HC.out.mono ?_
  rintro e w1 ⟨hA2,hH2,rfl⟩
  exact ⟨rfl,AskPost.gone_ (by rw[HU.out];rfl) (HA0.out.trans hA2) hH2⟩
 | val u =>
  have hm2:m'≤1048576:=HCnt.out u rfl
  have hut:tameV u:=HTm.out u rfl
  have HU2:=Hd (HU.out.trans rfl)
  clear HCnt HTm HU
  go_wp2_with fail
  refine HC.out.mono ?_
  rintro e w1 ⟨hA2,hH2,uv,rfl,huv⟩
  have hA3:=HA0.out.trans hA2
  have hz3:=hA3.size
  have hz4:w.heap.size+1≤w1.heap.size:=by have:=hA2.size;simp at this;omega
  have hS1:Seen (fun b=>S b∨New (w.alloc (.cells #[.string oCall,.int .i64 a,.slice (some ⟨bp,offp,none⟩) 2 c,.string gAll,n0,n1,n2,n3,n4,n5,n6,n7,n8,n9,n10] 32)) w1 b) w1 bw:=(hS.to HB.out.size).more (Nat.lt_of_lt_of_le hbw HB.out.size) hA2.size
  have hSN:∀b,(S b∨New (w.alloc (.cells #[.string oCall,.int .i64 a,.slice (some ⟨bp,offp,none⟩) 2 c,.string gAll,n0,n1,n2,n3,n4,n5,n6,n7,n8,n9,n10] 32)) w1 b)→S b∨New w w1 b:=fun b h=>h.imp id (fun h=>⟨Nat.le_trans HB.out.size h.1,h.2⟩)
  have hbw1:bw<w1.heap.size:=by omega
  have qe:=fun (o:Nat)=>hA2.cell (p:=⟨w.heap.size,o,none⟩) (by simp) hne
  have HTu:=Hd (turns_gAll w1)
  go_wp2_with fail
  refine HTu.out.mono ?_
  rintro e w2 ⟨rfl,rfl⟩
  have hSI:∀b,S b→(S b∨New (w.alloc (.cells #[.string oCall,.int .i64 a,.slice (some ⟨bp,offp,none⟩) 2 c,.string gAll,n0,n1,n2,n3,n4,n5,n6,n7,n8,n9,n10] 32)) w1 b):=fun b h=>.inl h
  by_cases h8:kindV u=8
  ·obtain ⟨l,rfl⟩:=kind_is_list h8
   obtain ⟨Al,cl,rfl,hll,-,hl⟩:=huv
   have HEa:=Hd (HEach.out w1 l Al cl m' _ hA3 hS1 hSI hm2 hll hl hut.2 hbw1 hH2)
   clear hl
   go_wp2_with fail
   refine HEa.out.mono ?_
   rintro e w9 hr9
   have hP:=AskPost.chain hr9 hA3 hSN
   replace hP:=AskPost.eq_ HU2.out hP
   obtain ⟨hA9,hH9,h9⟩:=hr9
   generalize eachA gAll a (askV p1) l [] m'=r9 at *
   obtain ⟨o9,m9⟩:=r9
   cases o9 with
   | val t =>
    obtain ⟨v9,rfl,hv9⟩:=h9
    go_wp2
    go_ret
    exact hP
   | gone gb gw =>
    obtain rfl:=h9
    exact ⟨rfl,hP⟩
  ·have k0:=fun (W:World)=>not_list huv 20 W h8
   go_wp2_with fail
   refine (HBad.out _).mono ?_
   rintro e w9 ⟨rfl,hb9⟩
   exact ⟨rfl,AskPost.gone_ (by rw[HU2.out];cases u <;> first|rfl|exact absurd rfl h8) (hA3.trans (Aside.of_below hb9)) (hH2.below hb9 hbw1)⟩
theorem call_map (a:Int) (p0 p1:Ex) (A:Option Addr) (c:Nat) (y:List Value) (hy:Eleven y) (ih0:AskC p0) (ih1:AskC p1) (v:V) (vv:Value) (n:Nat) (S:Nat→Prop) (w:World) (bw:Nat)
  (hS:Seen S w bw) (hbw:bw<w.heap.size) (hn:n≤1048576) (hp:PartsS w S A [p0,p1]) (hv:RdS w S v vv) (ht:tameV v) (hw:Words w S 1 kindWords) (hh:Hold w bw 0 (.int .i64 n)) :
  Calls Tryz.prog 66 #[.pointer (some ⟨bw,0,none⟩),eV oCall a (.slice A 2 c) gMap y,vv] w (AskPost S bw (callA gMap a (askL [p0,p1]) v n) w):=by
 have HBad:=Hd (fun (W:World)=>bad_any oCall a (.slice A 2 c) gMap y hy rfl W)
 have HGood:=Hd (fun (x:V) (u:Value) (S':Nat→Prop) (W:World)=>good_any oCall a (.slice A 2 c) gMap y hy rfl x u S' W)
 have HEach:=Hd (fun (w1:World) (l:List V) (Al:Option Addr) (cl m:Nat) (S1:Nat→Prop) (hA:Aside bw w w1) (hS1:Seen S1 w1 bw) (hSI:∀b,S b→S1 b) (hm:m≤1048576) (hll:l.length≤1099511627776) (hl:ListS w1 S1 Al l) (ht:tameL l) (hbw1:bw<w1.heap.size) (hH:Hold w1 bw 0 (.int .i64 m)) =>
  each_map a p0 p1 A c y hy ih1 l Al cl m S1 w1 bw hS1 hbw1 hm (PartsS.moreS (hp.asideS hS hA) hSI) hll hl ht ((hw.aside hS hA).more hSI) hH)
 obtain ⟨n0,n1,n2,n3,n4,n5,n6,n7,n8,n9,n10,rfl,h1⟩:=hy
 clear h1
 unfold eV at *
 have HB:Hid (Below w.heap.size w (w.alloc (.cells #[.string oCall,.int .i64 a,.slice A 2 c,.string gMap,n0,n1,n2,n3,n4,n5,n6,n7,n8,n9,n10] 32))):=Hd bnew
 have HA0:Hid (Aside bw w (w.alloc (.cells #[.string oCall,.int .i64 a,.slice A 2 c,.string gMap,n0,n1,n2,n3,n4,n5,n6,n7,n8,n9,n10] 32))):=Hd (Aside.of_below HB.out)
 obtain ⟨bp,offp,xs,eA,hSb,c0,hxs⟩:=hp.get (k:=0) (x:=p0) rfl
 subst eA
 rw[Nat.zero_mul,Nat.add_zero]at c0
 have c1:=c0.keep (fun p hp=>HB.out.cell (by rw[hp];exact (hS bp hSb).1))
 have HC:=Hd (ih0 xs v vv n S _ bw (hS.to HB.out.size) (Nat.lt_of_lt_of_le hbw HB.out.size) hn (hxs.aside hS HA0.out) (hv.aside hS HA0.out) ht (hw.aside hS HA0.out) (hh.below HB.out hbw))
 have HCnt:=Hd (ask_count p0 v n hn)
 have HTm:=Hd (ask_tame p0 v n ht)
 have HU:Hid (callA gMap a (askL [p0,p1]) v n=bindA (askV p0 v n) fun x m=>(match x with | .list xs=>eachA gMap a (askV p1) xs [] m|_=>(.gone a 172,m))):=Hd (by unfold callA;refine congrArg (bindA _) ?_;funext x m;rfl)
 have hne:w.heap.size≠bw:=by omega
 clear ih0 hp hh c0
 generalize askV p0 v n=q at *
 obtain ⟨op',a',l',nm',t'⟩:=p0
 obtain ⟨A',c',y',rfl,-,-,-,hty,-⟩:=hxs
 obtain ⟨m0,m1,m2,m3,m4,m5,m6,m7,m8,m9,m10,rfl,h1c⟩:=hty.elevenS
 unfold termOf at HC
 obtain ⟨q0,q1,q2,q3,q4,q5,q6,q7,q8,q9,q10,q11,q12,q13,q14⟩:=lie15 c1
 clear hty h1c c1
 obtain ⟨ou,m'⟩:=q
 go_enter Tryz.func66,Tryz.ntmps66
 cases ou with
 | gone ga gw =>
  go_wp2_with fail
  refine HC.out.mono ?_
  rintro e w1 ⟨hA2,hH2,rfl⟩
  exact ⟨rfl,AskPost.gone_ (by rw[HU.out];rfl) (HA0.out.trans hA2) hH2⟩
 | val u =>
  have hm2:m'≤1048576:=HCnt.out u rfl
  have hut:tameV u:=HTm.out u rfl
  have HU2:=Hd (HU.out.trans rfl)
  clear HCnt HTm HU
  go_wp2_with fail
  refine HC.out.mono ?_
  rintro e w1 ⟨hA2,hH2,uv,rfl,huv⟩
  have hA3:=HA0.out.trans hA2
  have hz3:=hA3.size
  have hz4:w.heap.size+1≤w1.heap.size:=by have:=hA2.size;simp at this;omega
  have hS1:Seen (fun b=>S b∨New (w.alloc (.cells #[.string oCall,.int .i64 a,.slice (some ⟨bp,offp,none⟩) 2 c,.string gMap,n0,n1,n2,n3,n4,n5,n6,n7,n8,n9,n10] 32)) w1 b) w1 bw:=(hS.to HB.out.size).more (Nat.lt_of_lt_of_le hbw HB.out.size) hA2.size
  have hSN:∀b,(S b∨New (w.alloc (.cells #[.string oCall,.int .i64 a,.slice (some ⟨bp,offp,none⟩) 2 c,.string gMap,n0,n1,n2,n3,n4,n5,n6,n7,n8,n9,n10] 32)) w1 b)→S b∨New w w1 b:=fun b h=>h.imp id (fun h=>⟨Nat.le_trans HB.out.size h.1,h.2⟩)
  have hbw1:bw<w1.heap.size:=by omega
  have qe:=fun (o:Nat)=>hA2.cell (p:=⟨w.heap.size,o,none⟩) (by simp) hne
  have HTu:=Hd (turns_gMap w1)
  go_wp2_with fail
  refine HTu.out.mono ?_
  rintro e w2 ⟨rfl,rfl⟩
  have hSI:∀b,S b→(S b∨New (w.alloc (.cells #[.string oCall,.int .i64 a,.slice (some ⟨bp,offp,none⟩) 2 c,.string gMap,n0,n1,n2,n3,n4,n5,n6,n7,n8,n9,n10] 32)) w1 b):=fun b h=>.inl h
  by_cases h8:kindV u=8
  ·obtain ⟨l,rfl⟩:=kind_is_list h8
   obtain ⟨Al,cl,rfl,hll,-,hl⟩:=huv
   have HEa:=Hd (HEach.out w1 l Al cl m' _ hA3 hS1 hSI hm2 hll hl hut.2 hbw1 hH2)
   clear hl
   go_wp2_with fail
   refine HEa.out.mono ?_
   rintro e w9 hr9
   have hP:=AskPost.chain hr9 hA3 hSN
   replace hP:=AskPost.eq_ HU2.out hP
   obtain ⟨hA9,hH9,h9⟩:=hr9
   generalize eachA gMap a (askV p1) l [] m'=r9 at *
   obtain ⟨o9,m9⟩:=r9
   cases o9 with
   | val t =>
    obtain ⟨v9,rfl,hv9⟩:=h9
    go_wp2
    go_ret
    exact hP
   | gone gb gw =>
    obtain rfl:=h9
    exact ⟨rfl,hP⟩
  ·have k0:=fun (W:World)=>not_list huv 20 W h8
   go_wp2_with fail
   refine (HBad.out _).mono ?_
   rintro e w9 ⟨rfl,hb9⟩
   exact ⟨rfl,AskPost.gone_ (by rw[HU2.out];cases u <;> first|rfl|exact absurd rfl h8) (hA3.trans (Aside.of_below hb9)) (hH2.below hb9 hbw1)⟩
theorem call_pick (a:Int) (p0 p1:Ex) (A:Option Addr) (c:Nat) (y:List Value) (hy:Eleven y) (ih0:AskC p0) (ih1:AskC p1) (v:V) (vv:Value) (n:Nat) (S:Nat→Prop) (w:World) (bw:Nat)
  (hS:Seen S w bw) (hbw:bw<w.heap.size) (hn:n≤1048576) (hp:PartsS w S A [p0,p1]) (hv:RdS w S v vv) (ht:tameV v) (hw:Words w S 1 kindWords) (hh:Hold w bw 0 (.int .i64 n)) :
  Calls Tryz.prog 66 #[.pointer (some ⟨bw,0,none⟩),eV oCall a (.slice A 2 c) gPick y,vv] w (AskPost S bw (callA gPick a (askL [p0,p1]) v n) w):=by
 have HBad:=Hd (fun (W:World)=>bad_any oCall a (.slice A 2 c) gPick y hy rfl W)
 have HGood:=Hd (fun (x:V) (u:Value) (S':Nat→Prop) (W:World)=>good_any oCall a (.slice A 2 c) gPick y hy rfl x u S' W)
 have HEach:=Hd (fun (w1:World) (l:List V) (Al:Option Addr) (cl m:Nat) (S1:Nat→Prop) (hA:Aside bw w w1) (hS1:Seen S1 w1 bw) (hSI:∀b,S b→S1 b) (hm:m≤1048576) (hll:l.length≤1099511627776) (hl:ListS w1 S1 Al l) (ht:tameL l) (hbw1:bw<w1.heap.size) (hH:Hold w1 bw 0 (.int .i64 m)) =>
  each_pick a p0 p1 A c y hy ih1 l Al cl m S1 w1 bw hS1 hbw1 hm (PartsS.moreS (hp.asideS hS hA) hSI) hll hl ht ((hw.aside hS hA).more hSI) hH)
 obtain ⟨n0,n1,n2,n3,n4,n5,n6,n7,n8,n9,n10,rfl,h1⟩:=hy
 clear h1
 unfold eV at *
 have HB:Hid (Below w.heap.size w (w.alloc (.cells #[.string oCall,.int .i64 a,.slice A 2 c,.string gPick,n0,n1,n2,n3,n4,n5,n6,n7,n8,n9,n10] 32))):=Hd bnew
 have HA0:Hid (Aside bw w (w.alloc (.cells #[.string oCall,.int .i64 a,.slice A 2 c,.string gPick,n0,n1,n2,n3,n4,n5,n6,n7,n8,n9,n10] 32))):=Hd (Aside.of_below HB.out)
 obtain ⟨bp,offp,xs,eA,hSb,c0,hxs⟩:=hp.get (k:=0) (x:=p0) rfl
 subst eA
 rw[Nat.zero_mul,Nat.add_zero]at c0
 have c1:=c0.keep (fun p hp=>HB.out.cell (by rw[hp];exact (hS bp hSb).1))
 have HC:=Hd (ih0 xs v vv n S _ bw (hS.to HB.out.size) (Nat.lt_of_lt_of_le hbw HB.out.size) hn (hxs.aside hS HA0.out) (hv.aside hS HA0.out) ht (hw.aside hS HA0.out) (hh.below HB.out hbw))
 have HCnt:=Hd (ask_count p0 v n hn)
 have HTm:=Hd (ask_tame p0 v n ht)
 have HU:Hid (callA gPick a (askL [p0,p1]) v n=bindA (askV p0 v n) fun x m=>(match x with | .list xs=>eachA gPick a (askV p1) xs [] m|_=>(.gone a 172,m))):=Hd (by unfold callA;refine congrArg (bindA _) ?_;funext x m;rfl)
 have hne:w.heap.size≠bw:=by omega
 clear ih0 hp hh c0
 generalize askV p0 v n=q at *
 obtain ⟨op',a',l',nm',t'⟩:=p0
 obtain ⟨A',c',y',rfl,-,-,-,hty,-⟩:=hxs
 obtain ⟨m0,m1,m2,m3,m4,m5,m6,m7,m8,m9,m10,rfl,h1c⟩:=hty.elevenS
 unfold termOf at HC
 obtain ⟨q0,q1,q2,q3,q4,q5,q6,q7,q8,q9,q10,q11,q12,q13,q14⟩:=lie15 c1
 clear hty h1c c1
 obtain ⟨ou,m'⟩:=q
 go_enter Tryz.func66,Tryz.ntmps66
 cases ou with
 | gone ga gw =>
  go_wp2_with fail
  refine HC.out.mono ?_
  rintro e w1 ⟨hA2,hH2,rfl⟩
  exact ⟨rfl,AskPost.gone_ (by rw[HU.out];rfl) (HA0.out.trans hA2) hH2⟩
 | val u =>
  have hm2:m'≤1048576:=HCnt.out u rfl
  have hut:tameV u:=HTm.out u rfl
  have HU2:=Hd (HU.out.trans rfl)
  clear HCnt HTm HU
  go_wp2_with fail
  refine HC.out.mono ?_
  rintro e w1 ⟨hA2,hH2,uv,rfl,huv⟩
  have hA3:=HA0.out.trans hA2
  have hz3:=hA3.size
  have hz4:w.heap.size+1≤w1.heap.size:=by have:=hA2.size;simp at this;omega
  have hS1:Seen (fun b=>S b∨New (w.alloc (.cells #[.string oCall,.int .i64 a,.slice (some ⟨bp,offp,none⟩) 2 c,.string gPick,n0,n1,n2,n3,n4,n5,n6,n7,n8,n9,n10] 32)) w1 b) w1 bw:=(hS.to HB.out.size).more (Nat.lt_of_lt_of_le hbw HB.out.size) hA2.size
  have hSN:∀b,(S b∨New (w.alloc (.cells #[.string oCall,.int .i64 a,.slice (some ⟨bp,offp,none⟩) 2 c,.string gPick,n0,n1,n2,n3,n4,n5,n6,n7,n8,n9,n10] 32)) w1 b)→S b∨New w w1 b:=fun b h=>h.imp id (fun h=>⟨Nat.le_trans HB.out.size h.1,h.2⟩)
  have hbw1:bw<w1.heap.size:=by omega
  have qe:=fun (o:Nat)=>hA2.cell (p:=⟨w.heap.size,o,none⟩) (by simp) hne
  have HTu:=Hd (turns_gPick w1)
  go_wp2_with fail
  refine HTu.out.mono ?_
  rintro e w2 ⟨rfl,rfl⟩
  have hSI:∀b,S b→(S b∨New (w.alloc (.cells #[.string oCall,.int .i64 a,.slice (some ⟨bp,offp,none⟩) 2 c,.string gPick,n0,n1,n2,n3,n4,n5,n6,n7,n8,n9,n10] 32)) w1 b):=fun b h=>.inl h
  by_cases h8:kindV u=8
  ·obtain ⟨l,rfl⟩:=kind_is_list h8
   obtain ⟨Al,cl,rfl,hll,-,hl⟩:=huv
   have HEa:=Hd (HEach.out w1 l Al cl m' _ hA3 hS1 hSI hm2 hll hl hut.2 hbw1 hH2)
   clear hl
   go_wp2_with fail
   refine HEa.out.mono ?_
   rintro e w9 hr9
   have hP:=AskPost.chain hr9 hA3 hSN
   replace hP:=AskPost.eq_ HU2.out hP
   obtain ⟨hA9,hH9,h9⟩:=hr9
   generalize eachA gPick a (askV p1) l [] m'=r9 at *
   obtain ⟨o9,m9⟩:=r9
   cases o9 with
   | val t =>
    obtain ⟨v9,rfl,hv9⟩:=h9
    go_wp2
    go_ret
    exact hP
   | gone gb gw =>
    obtain rfl:=h9
    exact ⟨rfl,hP⟩
  ·have k0:=fun (W:World)=>not_list huv 20 W h8
   go_wp2_with fail
   refine (HBad.out _).mono ?_
   rintro e w9 ⟨rfl,hb9⟩
   exact ⟨rfl,AskPost.gone_ (by rw[HU2.out];cases u <;> first|rfl|exact absurd rfl h8) (hA3.trans (Aside.of_below hb9)) (hH2.below hb9 hbw1)⟩
end Go.Proofs.YtbemeapjeipjlaaGreatDoor
