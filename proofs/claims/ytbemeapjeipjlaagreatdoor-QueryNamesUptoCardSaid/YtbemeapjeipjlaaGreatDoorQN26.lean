/- Walks: query.walk.ask: is, list. -/
import Derived.Test.YtbemeapjeipjlaaGreatDoorQN23
import Derived.Test.YtbemeapjeipjlaaGreatDoorQN16
import Derived.Test.YtbemeapjeipjlaaGreatDoorQN20
import Derived.Test.YtbemeapjeipjlaaGreatDoorQN21
import Derived.Test.YtbemeapjeipjlaaGreatDoorQN22
import Derived.Test.YtbemeapjeipjlaaGreatDoorQN24
import Derived.Test.YtbemeapjeipjlaaGreatDoorQN25
set_option linter.unusedVariables false
set_option linter.unusedSimpArgs false
namespace Go.Proofs.YtbemeapjeipjlaaGreatDoor
open Go Go.RowKit
set_option maxRecDepth 100000
set_option maxHeartbeats 8000000
attribute [local go_sem] ta_no_bool ta_yes_bool ta_nil_bool ta_no_int64 ta_yes_int64 ta_nil_int64 ta_no_flt ta_yes_flt ta_nil_flt ta_no_str ta_yes_str ta_nil_str ta_no_byt ta_yes_byt ta_nil_byt ta_no_ref ta_yes_ref ta_nil_ref ta_no_lst ta_yes_lst ta_nil_lst ta_no_dct ta_yes_dct ta_nil_dct ta_no_rec ta_yes_rec ta_nil_rec
theorem KeepB.three {W1 W:World} {a b c:Nat} (h1:∀o,W.cell? ⟨a,o,none⟩=W1.cell? ⟨a,o,none⟩) (h2:∀o,W.cell? ⟨b,o,none⟩=W1.cell? ⟨b,o,none⟩) (h3:∀o,W.cell? ⟨c,o,none⟩=W1.cell? ⟨c,o,none⟩):KeepB W1 [a,b,c] W:=by
 intro d hd o
 simp at hd
 rcases hd with rfl|rfl|rfl
 ·exact h1 o
 ·exact h2 o
 ·exact h3 o
theorem ask_is (a:Int) (p0:Ex) (nm:ByteArray) (t:Tm) (ih0:AskC p0):AskC (.mk oIs a [p0] nm t):=by
 intro x v vv n S w bw hS hbw hn hx hv ht hw hh
 by_cases hlim:1048576<n+1
 ·exact ask_over _ _ _ _ _ x v vv n S w bw hS hbw hn hx hh hlim
 obtain ⟨A,c,y,rfl,hops,ha,hns,hty,hll,hp⟩:=hx
 obtain ⟨bp,offp,xs,eA,hSb,c0,hxs⟩:=PartsS.get (k:=0) (x:=p0) hp rfl
 subst eA
 rw[Nat.zero_mul,Nat.add_zero]at c0
 have hy:Eleven y:=hty.elevenS
 have HBad:=Hd (fun (W:World)=>bad_any oIs a (.slice (some ⟨bp,offp,none⟩) 1 c) nm y hy rfl W)
 obtain ⟨n0,n1,n2,n3,n4,n5,n6,n7,n8,n9,n10,rfl,h1c⟩:=hy
 clear h1c
 have hne:w.heap.size≠bw:=by omega
 have hh1:Hold (w.setCell ⟨bw,0,none⟩ (.int .i64 ((n:Int)+1))) bw 0 (.int .i64 ((n+1:Nat):Int)):=hh.set _
 have hbw0:bw<(w.setCell ⟨bw,0,none⟩ (.int .i64 ((n:Int)+1))).heap.size:=by simp;omega
 have hba:Below (w.setCell ⟨bw,0,none⟩ (.int .i64 ((n:Int)+1))).heap.size (w.setCell ⟨bw,0,none⟩ (.int .i64 ((n:Int)+1))) ((w.setCell ⟨bw,0,none⟩ (.int .i64 ((n:Int)+1))).alloc (.cells #[.string oIs,.int .i64 a,.slice (some ⟨bp,offp,none⟩) 1 c,.string nm,n0,n1,n2,n3,n4,n5,n6,n7,n8,n9,n10] 32)):=bnew
 have HA1:Hid (Aside bw w ((w.setCell ⟨bw,0,none⟩ (.int .i64 ((n:Int)+1))).alloc (.cells #[.string oIs,.int .i64 a,.slice (some ⟨bp,offp,none⟩) 1 c,.string nm,n0,n1,n2,n3,n4,n5,n6,n7,n8,n9,n10] 32))):=Hd ((Aside.set 0 _).trans (Aside.of_below hba))
 have HH1:Hid (Hold ((w.setCell ⟨bw,0,none⟩ (.int .i64 ((n:Int)+1))).alloc (.cells #[.string oIs,.int .i64 a,.slice (some ⟨bp,offp,none⟩) 1 c,.string nm,n0,n1,n2,n3,n4,n5,n6,n7,n8,n9,n10] 32)) bw 0 (.int .i64 ((n+1:Nat):Int))):=Hd (hh1.below hba hbw0)
 have e0:wrap64 ((n:Int)+1)=(n:Int)+1:=by unfold wrap64;omega
 obtain ⟨hc0,hf0⟩:=hh
 have hc1:(w.setCell ⟨bw,0,none⟩ (.int .i64 ((n:Int)+1))).cell? ⟨bw,0,none⟩=some (.int .i64 ((n:Int)+1)):=hh1.1
 have hbw1:bw<((w.setCell ⟨bw,0,none⟩ (.int .i64 ((n:Int)+1))).alloc (.cells #[.string oIs,.int .i64 a,.slice (some ⟨bp,offp,none⟩) 1 c,.string nm,n0,n1,n2,n3,n4,n5,n6,n7,n8,n9,n10] 32)).heap.size:=by simp;omega
 have hS1:Seen S ((w.setCell ⟨bw,0,none⟩ (.int .i64 ((n:Int)+1))).alloc (.cells #[.string oIs,.int .i64 a,.slice (some ⟨bp,offp,none⟩) 1 c,.string nm,n0,n1,n2,n3,n4,n5,n6,n7,n8,n9,n10] 32)) bw:=hS.to HA1.out.size
 clear hh1 hba
 have c1:=c0.keep (fun p hp=>HA1.out.cell (by rw[hp];exact (hS bp hSb).1) (by rw[hp];exact (hS bp hSb).2))
 have HC:=Hd (fun (W:World) (hW:Aside bw ((w.setCell ⟨bw,0,none⟩ (.int .i64 ((n:Int)+1))).alloc (.cells #[.string oIs,.int .i64 a,.slice (some ⟨bp,offp,none⟩) 1 c,.string nm,n0,n1,n2,n3,n4,n5,n6,n7,n8,n9,n10] 32)) W) (hHW:Hold W bw 0 (.int .i64 ((n+1:Nat):Int)))=>ih0 xs v vv (n+1) S W bw (hS1.to hW.size) (Nat.lt_of_lt_of_le hbw1 hW.size) (by omega) (hxs.aside hS (HA1.out.trans hW)) (hv.aside hS (HA1.out.trans hW)) ht (hw.aside hS (HA1.out.trans hW)) hHW)
 have HTm:=Hd (ask_tame p0 v (n+1) ht)
 have HU:Hid (askV (.mk oIs a [p0] nm t) v n=bindA (askV p0 v (n+1)) fun x m=>(.val (.bool (decide ((kindV x:Int)=idxW kindWords nm 0))),m)):=Hd (by rw[askV];unfold stepA;rw[if_neg (by omega),if_neg (by decide),if_neg (by decide),if_neg (by decide),if_neg (by decide),if_neg (by decide),if_neg (by decide),if_neg (by decide),if_pos rfl];rfl)
 have ho':¬(1048576:Int)<(n:Int)+1:=by omega
 obtain ⟨hg1,bk,ok,ck,hSk,g0',gs'⟩:=hw
 have g0:((w.setCell ⟨bw,0,none⟩ (.int .i64 ((n:Int)+1))).alloc (.cells #[.string oIs,.int .i64 a,.slice (some ⟨bp,offp,none⟩) 1 c,.string nm,n0,n1,n2,n3,n4,n5,n6,n7,n8,n9,n10] 32)).cell? ⟨1,0,none⟩=some (.slice (some ⟨bk,ok,none⟩) kindWords.length ck):=(HA1.out.cell (p:=⟨1,0,none⟩) (hS 1 hg1).1 (hS 1 hg1).2).trans g0'
 have gs:∀i t,kindWords[i]?=some t→((w.setCell ⟨bw,0,none⟩ (.int .i64 ((n:Int)+1))).alloc (.cells #[.string oIs,.int .i64 a,.slice (some ⟨bp,offp,none⟩) 1 c,.string nm,n0,n1,n2,n3,n4,n5,n6,n7,n8,n9,n10] 32)).cell? ⟨bk,ok+i,none⟩=some (.string t):=fun i t hi=>(HA1.out.cell (p:=⟨bk,ok+i,none⟩) (hS bk hSk).1 (hS bk hSk).2).trans (gs' i t hi)
 clear g0' gs'
 clear ih0 hp c0 hty hv
 generalize askV p0 v (n+1)=q at *
 obtain ⟨op',a',l',nm',t'⟩:=p0
 obtain ⟨A',c',y',rfl,-,-,-,hty',-⟩:=hxs
 obtain ⟨m0,m1,m2,m3,m4,m5,m6,m7,m8,m9,m10,rfl,h1c⟩:=hty'.elevenS
 unfold termOf eV at *
 obtain ⟨q0,q1,q2,q3,q4,q5,q6,q7,q8,q9,q10,q11,q12,q13,q14⟩:=lie15 c1
 clear hty' h1c c1
 obtain ⟨ou,m'⟩:=q
 go_enter Tryz.func44,Tryz.ntmps44
 go_wp2
 refine wp_region_heldI (KeepB ((w.setCell ⟨bw,0,none⟩ (.int .i64 ((n:Int)+1))).alloc (.cells #[.string oIs,.int .i64 a,.slice (some ⟨bp,offp,none⟩) 1 c,.string nm,n0,n1,n2,n3,n4,n5,n6,n7,n8,n9,n10] 32)) [w.heap.size,bp,1]) [0,1,2,3,4,5,8,9,10] [6,7,11,12,13,14] (by kernel_rfl) (by kernel_rfl) (fun _ _ _ _ _ h=>h) ?_ ?_
 ·((exact fun _ _ _=>rfl))
 simp only[pickI,List.getElem?_cons_succ,List.getElem?_cons_zero]
 repeat (refine HdS.step (fun K hK=>?_);go_simp;first|(refine hK _ ?_;clear hK K)|(apply Exists.intro;refine ⟨fun W hW=>?_,hK _ ?_⟩;(first|(intros;rfl)|((have hcA:=hW w.heap.size (by simp);have hcB:=hW bp (by simp);have hcC:=hW 1 (by simp);go_simp;rfl)));clear hK K))
 refine HdS.nil ?_
 refine SeqS.step (fun K hK=>?_)
 go_simp
 go_at_call 44
 refine (HC.out _ (Aside.refl _ _).drew ⟨HH1.out.1,HH1.out.2⟩).mono ?_
 cases ou with
 | gone ga gw =>
  rintro e w1 ⟨hA2,hH2,rfl⟩
  exact ⟨rfl,AskPost.gone_ (by rw[HU.out];rfl) (HA1.out.trans ((Aside.refl _ _).drew.trans hA2)) hH2⟩
 | val u =>
  rintro e w1 ⟨hA2',hH2,uv,rfl,huv⟩
  have hA2:Aside bw ((w.setCell ⟨bw,0,none⟩ (.int .i64 ((n:Int)+1))).alloc (.cells #[.string oIs,.int .i64 a,.slice (some ⟨bp,offp,none⟩) 1 c,.string nm,n0,n1,n2,n3,n4,n5,n6,n7,n8,n9,n10] 32)) w1:=(Aside.refl _ _).drew.trans hA2'
  have hz3:=hA2.size
  have hz4:w.heap.size+1≤w1.heap.size:=by have:=hA2.size;simp at this;omega
  have hA3:=HA1.out.trans hA2
  have hS2:Seen (fun b=>S b∨New ((w.setCell ⟨bw,0,none⟩ (.int .i64 ((n:Int)+1))).alloc (.cells #[.string oIs,.int .i64 a,.slice (some ⟨bp,offp,none⟩) 1 c,.string nm,n0,n1,n2,n3,n4,n5,n6,n7,n8,n9,n10] 32)) w1 b) w1 bw:=hS1.more hbw1 hA2.size
  have hSN:∀b,(S b∨New ((w.setCell ⟨bw,0,none⟩ (.int .i64 ((n:Int)+1))).alloc (.cells #[.string oIs,.int .i64 a,.slice (some ⟨bp,offp,none⟩) 1 c,.string nm,n0,n1,n2,n3,n4,n5,n6,n7,n8,n9,n10] 32)) w1 b)→S b∨New w w1 b:=fun b h=>h.imp id (fun h=>⟨Nat.le_trans HA1.out.size h.1,h.2⟩)
  have hbw2:bw<w1.heap.size:=by omega
  have hcl:KeepB ((w.setCell ⟨bw,0,none⟩ (.int .i64 ((n:Int)+1))).alloc (.cells #[.string oIs,.int .i64 a,.slice (some ⟨bp,offp,none⟩) 1 c,.string nm,n0,n1,n2,n3,n4,n5,n6,n7,n8,n9,n10] 32)) [w.heap.size,bp,1] w1:=KeepB.three (fun o=>hA2.cell (p:=⟨w.heap.size,o,none⟩) (by simp) hne) (fun o=>hA2.cell (p:=⟨bp,o,none⟩) (hS1 bp hSb).1 (hS1 bp hSb).2) (fun o=>hA2.cell (p:=⟨1,o,none⟩) (hS1 1 hg1).1 (hS1 1 hg1).2)
  refine hK _ _ hcl ?_
  clear hK K
  refine SeqS.step (fun K hK=>?_)
  go_simp
  go_at_call 62
  refine (kind_out u uv w1.heap.size w1 (RdS.more (fun b h=>(hS2 b h).1) _ _ huv)).mono ?_
  rintro e w2 ⟨rfl,rfl⟩
  refine hK _ _ hcl ?_
  clear hK K
  have gsW:∀i t,kindWords[i]?=some t→w1.cell? ⟨bk,ok+i,none⟩=some (.string t):=fun i t hi=>(hA2.cell (p:=⟨bk,ok+i,none⟩) (hS1 bk hSk).1 (hS1 bk hSk).2).trans (gs i t hi)
  refine SeqS.step (fun K hK=>?_)
  go_simp
  go_at_call 63
  refine (windex_any kindWords bk ok ck nm w1 (by decide) gsW).mono ?_
  rintro e w3 ⟨rfl,rfl⟩
  refine hK _ _ hcl ?_
  clear hK K
  refine SeqS.step (fun K hK=>?_)
  go_simp
  refine hK _ _ hcl ?_
  clear hK K
  refine SeqS.step (fun K hK=>?_)
  go_simp
  refine hK _ _ hcl ?_
  clear hK K
  refine SeqS.step (fun K hK=>?_)
  go_simp
  refine hK _ _ hcl ?_
  clear hK K
  refine SeqS.nil ?_
  go_wp2
  go_ret
  exact AskPost.val_ (x:=.bool ((kindV u:Int)==idxW kindWords nm 0)) (by rw[HU.out];rfl) hA3 hH2 rfl
theorem ask_list (a:Int) (l:List Ex) (nm:ByteArray) (t:Tm) (ih:∀x∈l,AskC x):AskC (.mk oList a l nm t):=by
 intro x v vv n S w bw hS hbw hn hx hv ht hw hh
 by_cases hlim:1048576<n+1
 ·exact ask_over _ _ _ _ _ x v vv n S w bw hS hbw hn hx hh hlim
 obtain ⟨A,c,y,rfl,hops,ha,hns,hty,hll,hp⟩:=hx
 replace hp:PartsS w S A l:=hp
 have hy:Eleven y:=hty.elevenS
 have HBad:=Hd (fun (W:World)=>bad_any oList a (.slice A l.length c) nm y hy rfl W)
 have HGood:=Hd (fun (x:V) (u:Value) (S':Nat→Prop) (W:World)=>good_any oList a (.slice A l.length c) nm y hy rfl x u S' W)
 obtain ⟨n0,n1,n2,n3,n4,n5,n6,n7,n8,n9,n10,rfl,h1c⟩:=hy
 clear h1c
 have hne:w.heap.size≠bw:=by omega
 have hh1:Hold (w.setCell ⟨bw,0,none⟩ (.int .i64 ((n:Int)+1))) bw 0 (.int .i64 ((n+1:Nat):Int)):=hh.set _
 have hbw0:bw<(w.setCell ⟨bw,0,none⟩ (.int .i64 ((n:Int)+1))).heap.size:=by simp;omega
 have hba:Below (w.setCell ⟨bw,0,none⟩ (.int .i64 ((n:Int)+1))).heap.size (w.setCell ⟨bw,0,none⟩ (.int .i64 ((n:Int)+1))) ((w.setCell ⟨bw,0,none⟩ (.int .i64 ((n:Int)+1))).alloc (.cells #[.string oList,.int .i64 a,.slice A l.length c,.string nm,n0,n1,n2,n3,n4,n5,n6,n7,n8,n9,n10] 32)):=bnew
 have HA1:Hid (Aside bw w ((w.setCell ⟨bw,0,none⟩ (.int .i64 ((n:Int)+1))).alloc (.cells #[.string oList,.int .i64 a,.slice A l.length c,.string nm,n0,n1,n2,n3,n4,n5,n6,n7,n8,n9,n10] 32))):=Hd ((Aside.set 0 _).trans (Aside.of_below hba))
 have HH1:Hid (Hold ((w.setCell ⟨bw,0,none⟩ (.int .i64 ((n:Int)+1))).alloc (.cells #[.string oList,.int .i64 a,.slice A l.length c,.string nm,n0,n1,n2,n3,n4,n5,n6,n7,n8,n9,n10] 32)) bw 0 (.int .i64 ((n+1:Nat):Int))):=Hd (hh1.below hba hbw0)
 have e0:wrap64 ((n:Int)+1)=(n:Int)+1:=by unfold wrap64;omega
 obtain ⟨hc0,hf0⟩:=hh
 have hc1:(w.setCell ⟨bw,0,none⟩ (.int .i64 ((n:Int)+1))).cell? ⟨bw,0,none⟩=some (.int .i64 ((n:Int)+1)):=hh1.1
 have hbw1:bw<((w.setCell ⟨bw,0,none⟩ (.int .i64 ((n:Int)+1))).alloc (.cells #[.string oList,.int .i64 a,.slice A l.length c,.string nm,n0,n1,n2,n3,n4,n5,n6,n7,n8,n9,n10] 32)).heap.size:=by simp;omega
 have hS1:Seen S ((w.setCell ⟨bw,0,none⟩ (.int .i64 ((n:Int)+1))).alloc (.cells #[.string oList,.int .i64 a,.slice A l.length c,.string nm,n0,n1,n2,n3,n4,n5,n6,n7,n8,n9,n10] 32)) bw:=hS.to HA1.out.size
 clear hh1 hba
 obtain ⟨i0,hi0,hz0,hz1_,hz2⟩:=info_parts Tryz.infoAny
 have HU:Hid (askV (.mk oList a l nm t) v n=listA a (askL l) v [] (n+1)):=Hd (by rw[askV];unfold stepA;rw[if_neg (by omega),if_neg (by decide),if_neg (by decide),if_neg (by decide),if_neg (by decide),if_neg (by decide),if_neg (by decide),if_neg (by decide),if_neg (by decide),if_neg (by decide),if_pos rfl])
 have ho':¬(1048576:Int)<(n:Int)+1:=by omega
 have hn1:n+1≤1048576:=by omega
 have hO0:OwnV (fun b=>S b∨w.heap.size+1≤b) (((w.setCell ⟨bw,0,none⟩ (.int .i64 ((n:Int)+1))).alloc (.cells #[.string oList,.int .i64 a,.slice A l.length c,.string nm,n0,n1,n2,n3,n4,n5,n6,n7,n8,n9,n10] 32)).alloc (.cells #[] 20)) (w.heap.size+1) (.slice (some ⟨w.heap.size+1,0,none⟩) 0 0) []:=by
  have:=OwnV.empty (fun b=>S b∨w.heap.size+1≤b) ((w.setCell ⟨bw,0,none⟩ (.int .i64 ((n:Int)+1))).alloc (.cells #[.string oList,.int .i64 a,.slice A l.length c,.string nm,n0,n1,n2,n3,n4,n5,n6,n7,n8,n9,n10] 32)) (w.heap.size+1) (by simp)
  simpa using this
 have hFb:∀b,(S b∨w.heap.size+1≤b)→b≠bw:=fun b hb=>hb.elim (fun h=>(hS b h).2) (fun h=>by omega)
 have HB0:Hid (Below ((w.setCell ⟨bw,0,none⟩ (.int .i64 ((n:Int)+1))).alloc (.cells #[.string oList,.int .i64 a,.slice A l.length c,.string nm,n0,n1,n2,n3,n4,n5,n6,n7,n8,n9,n10] 32)).heap.size ((w.setCell ⟨bw,0,none⟩ (.int .i64 ((n:Int)+1))).alloc (.cells #[.string oList,.int .i64 a,.slice A l.length c,.string nm,n0,n1,n2,n3,n4,n5,n6,n7,n8,n9,n10] 32)) (((w.setCell ⟨bw,0,none⟩ (.int .i64 ((n:Int)+1))).alloc (.cells #[.string oList,.int .i64 a,.slice A l.length c,.string nm,n0,n1,n2,n3,n4,n5,n6,n7,n8,n9,n10] 32)).alloc (.cells #[] 20))):=Hd bnew
 have HA00:Hid (Aside bw ((w.setCell ⟨bw,0,none⟩ (.int .i64 ((n:Int)+1))).alloc (.cells #[.string oList,.int .i64 a,.slice A l.length c,.string nm,n0,n1,n2,n3,n4,n5,n6,n7,n8,n9,n10] 32)) (((w.setCell ⟨bw,0,none⟩ (.int .i64 ((n:Int)+1))).alloc (.cells #[.string oList,.int .i64 a,.slice A l.length c,.string nm,n0,n1,n2,n3,n4,n5,n6,n7,n8,n9,n10] 32)).alloc (.cells #[] 20))):=Hd (Aside.of_below HB0.out)
 have hH00:Hold (((w.setCell ⟨bw,0,none⟩ (.int .i64 ((n:Int)+1))).alloc (.cells #[.string oList,.int .i64 a,.slice A l.length c,.string nm,n0,n1,n2,n3,n4,n5,n6,n7,n8,n9,n10] 32)).alloc (.cells #[] 20)) bw 0 (.int .i64 ((n+1:Nat):Int)):=HH1.out.below HB0.out hbw1
 have HAsk:=Hd (fun (x:Ex) (hx:x∈l) (xs:List Value) (m:Nat) (W:World) (hm:m≤1048576) (hW:Aside bw ((w.setCell ⟨bw,0,none⟩ (.int .i64 ((n:Int)+1))).alloc (.cells #[.string oList,.int .i64 a,.slice A l.length c,.string nm,n0,n1,n2,n3,n4,n5,n6,n7,n8,n9,n10] 32)) W) (hhW:Hold W bw 0 (.int .i64 m)) (hxs:RdES w S x xs)=>ih x hx xs v vv m S W bw (hS1.to hW.size) (Nat.lt_of_lt_of_le hbw1 hW.size) hm (hxs.aside hS (HA1.out.trans hW)) (hv.aside hS (HA1.out.trans hW)) ht (hw.aside hS (HA1.out.trans hW)) hhW)
 clear ih hv hw hty
 unfold termOf eV at *
 go_enter Tryz.func44,Tryz.ntmps44
 go_wp2
 go_loopw [11,126] (fun s i wr=>∃(k m:Nat) (o:List V),i=.int .i64 k∧k≤l.length∧m≤1048576∧o.length≤k∧Hid (listA a (askL l) v [] (n+1)=listA a ((askL l).drop k) v o m)∧Aside bw ((w.setCell ⟨bw,0,none⟩ (.int .i64 ((n:Int)+1))).alloc (.cells #[.string oList,.int .i64 a,.slice A l.length c,.string nm,n0,n1,n2,n3,n4,n5,n6,n7,n8,n9,n10] 32)) wr∧Hold wr bw 0 (.int .i64 m)∧OwnV (fun b=>S b∨w.heap.size+1≤b) wr (w.heap.size+1) s o) (fun _ i _=>l.length-(intOf i).toNat)
 case atStart=>exact ⟨0,n+1,[],rfl,by omega,hn1,by simp,Hd rfl,HA00.out,hH00,hO0⟩
 case round =>
  clear hO0 hH00
  obtain ⟨k,m,o,rfl,hk,hm,hok,HT,hA,hH,hO⟩:=hrel
  obtain ⟨Ao,co,rfl⟩:=hO.form
  have hA1:=HA1.out.trans hA
  have hz:=hA1.size
  have hz1:w.heap.size+1≤wr.heap.size:=by have:=hA.size;simp at this;omega
  have qe:=fun (o:Nat)=>hA.cell (p:=⟨w.heap.size,o,none⟩) (by simp) hne
  by_cases hlt:k<l.length
  ·obtain ⟨x,hx⟩:∃x,l[k]?=some x:=⟨_,List.getElem?_eq_getElem hlt⟩
   obtain ⟨b,off,xs,rfl,hSb,c0,hxs⟩:=hp.get hx
   have c1:=c0.keep (fun p hp=>hA1.cell (by rw[hp];exact (hS b hSb).1) (by rw[hp];exact (hS b hSb).2))
   have hb3:Below wr.heap.size wr (wr.alloc (.cells xs.toArray 32)):=bnew
   have HC:=Hd (HAsk.out x (List.mem_of_getElem? hx) xs m _ hm (hA.trans (Aside.of_below hb3)) (hH.below hb3 (by omega)) hxs)
   have HB3:=Hd hb3
   have HDR:=Hd (askL_drop hx)
   have HCnt:=Hd (ask_count x v m hm)
   obtain ⟨op',a',l',nm',t'⟩:=x
   obtain ⟨A',c',y',rfl,-,-,-,hty,-⟩:=hxs
   obtain ⟨m0,m1,m2,m3,m4,m5,m6,m7,m8,m9,m10,rfl,h1c⟩:=hty.elevenS
   obtain ⟨q0,q1,q2,q3,q4,q5,q6,q7,q8,q9,q10,q11,q12,q13,q14⟩:=lie15 c1
   have o0:=fun W a m=>run_store Tryz.prog W a m0 m (h1c m0 (by simp))
   have o1:=fun W a m=>run_store Tryz.prog W a m1 m (h1c m1 (by simp))
   have o2:=fun W a m=>run_store Tryz.prog W a m2 m (h1c m2 (by simp))
   have o3:=fun W a m=>run_store Tryz.prog W a m3 m (h1c m3 (by simp))
   have o4:=fun W a m=>run_store Tryz.prog W a m4 m (h1c m4 (by simp))
   have o5:=fun W a m=>run_store Tryz.prog W a m5 m (h1c m5 (by simp))
   have o6:=fun W a m=>run_store Tryz.prog W a m6 m (h1c m6 (by simp))
   have o7:=fun W a m=>run_store Tryz.prog W a m7 m (h1c m7 (by simp))
   have o8:=fun W a m=>run_store Tryz.prog W a m8 m (h1c m8 (by simp))
   have o9:=fun W a m=>run_store Tryz.prog W a m9 m (h1c m9 (by simp))
   have o10:=fun W a m=>run_store Tryz.prog W a m10 m (h1c m10 (by simp))
   clear hp hx c0 c1 hty h1c HAsk hb3
   generalize hq:askV (.mk op' a' l' nm' t') v m=q at *
   obtain ⟨ou,m2'⟩:=q
   cases ou with
   | gone ga gw =>
    have HF:Hid (listA a (askL l) v [] (n+1)=(.gone ga gw,m2')):=Hd (by rw[HT.out,HDR.out,listA,hq];rfl)
    clear hq
    go_wp2_with fail
    refine HC.out.mono ?_
    rintro e w1 ⟨hA2,hH2,rfl⟩
    exact ⟨rfl,AskPost.gone_ (HU.out.trans HF.out) (hA1.trans ((Aside.of_below HB3.out).trans hA2)) hH2⟩
   | val u =>
    have hm2:m2'≤1048576:=HCnt.out u rfl
    have HT2:Hid (listA a (askL l) v [] (n+1)=listA a ((askL l).drop (k+1)) v (o++[u]) m2'):=Hd (by rw[HT.out,HDR.out,listA,hq];rfl)
    clear hq
    go_wp2_with fail
    refine HC.out.mono ?_
    rintro e w1 ⟨hA2',hH2,uv,rfl,huv⟩
    have hA2:=(Aside.of_below (bw:=bw) HB3.out).trans hA2'
    have hA3:=hA.trans hA2
    have qe3:=fun (o:Nat)=>hA3.cell (p:=⟨w.heap.size,o,none⟩) (by simp) hne
    have hO2:=hO.aside hFb (by omega) hA2
    have hba:Below w1.heap.size w1 (w1.alloc (.cells #[uv] 20)):=bnew
    have hO3:=hO2.below hba
    obtain ⟨zs0,hown0,_⟩:=hO
    have hz4:wr.heap.size+1≤w1.heap.size:=by have:=hA2'.size;simp at this;omega
    have hu2:RdS (w1.alloc (.cells #[uv] 20)) (Fresh (fun b=>S b∨w.heap.size+1≤b) (w1.alloc (.cells #[uv] 20)) (.slice Ao o.length co)) u uv:=RdS.more (fun b hb=>⟨hb.elim .inl (fun h=>.inr (by have:=h.1;simp at this;omega)),by rcases hb with h|h;(have:=(hS b h).1;simp;omega);(have:=h.2;simp;omega),fun e=>by have h3:=hown0.lt b e;rcases hb with h|h;(have:=(hS b h).1;omega);(have:=h.1;simp at this;omega)⟩) _ _ (RdS.keep (fun p hp=>hba.cell (by rcases hp with h|h;(have:=(hS _ h).1;omega);exact h.2)) _ _ huv)
    obtain ⟨zs,hown,hzs⟩:=hO3
    have hou:=hu2.one
    have hA4:=hA3.trans (Aside.of_below hba)
    have hH4:=hH2.below hba (by omega)
    have hz5:w.heap.size+1≤(w1.alloc (.cells #[uv] 20)).heap.size:=by simp;omega
    rcases hu2.face with rfl|⟨ty,yy,rfl⟩
    all_goals
     go_wp2_with (at_builtin;go_must (refine wpList_append_lies _ rfl (.tmp 130) (.tmp 135) 73 rfl (w.heap.size+1) 20 i0 _ 1 16 Tryz.underlying73 hi0 hz0 hz1_ hz2 rfl (by omega) (.slice Ao o.length co) o.length zs rfl hown ⟨w1.heap.size,0,none⟩ 1 1 [_] rfl rfl (news_at rfl) (one_of1 hou) (by omega) (by simp only[maxLen];omega) (by omega) hz5 _ rfl ?_);intro g cap w2 hown2 hg2 hat hlt2)
     have hO5:=OwnV.snoc rfl hown hzs hu2 hown2 hg2 hat
     have hrow:∀k,Value.ownBlock (.slice Ao o.length co)=some k→w.heap.size+1≤k:=fun k hk=>(hown.lt k hk).1
     refine ⟨⟨k+1,m2',o++[u],rfl,hlt,hm2,by simp;omega,HT2,hA4.grown2 hg2 hrow (by simp),hH4.grown hg2 (by simp;omega) (fun e=>by have:=hrow bw e;omega),hO5⟩,?_⟩
     simp[intOf];omega
  ·obtain rfl:k=l.length:=by omega
   have HF:Hid (askV (.mk oList a l nm t) v n=(goodV a (.list o),m)):=Hd (by rw[HU.out,HT.out,askL_end,listA])
   have hR:=hO.read (by omega)
   have HG:=Hd (HGood.out (.list o) (.iface 73 (.slice Ao o.length co)) _ wr (fun b hb=>hb.2) hR)
   clear hO hR hp HAsk
   go_wp2_with fail
   refine HG.out.mono ?_
   rintro e w9 ⟨hb9,hr9⟩
   have hA9:=hA1.trans (Aside.of_below hb9)
   have hH9:=hH.below hb9 (by omega)
   cases hg:goodV a (.list o)with
   | val t9 =>
    rw[hg]at hr9
    obtain ⟨v9,rfl,hv9⟩:=hr9
    go_wp2
    go_ret
    exact AskPost.val_ (by rw[HF.out,hg]) hA9 hH9 (RdS.more (fun b hb=>hb.elim (fun h=>h.1.elim (fun h'=>h'.elim .inl (fun h'=>.inr ⟨by omega,Nat.lt_of_lt_of_le h.2 hb9.size⟩)) (fun h'=>.inr ⟨by omega,Nat.lt_of_lt_of_le h.2 hb9.size⟩)) (fun h=>.inr ⟨Nat.le_trans hz h.1,h.2⟩)) _ _ hv9)
   | gone gb gw =>
    rw[hg]at hr9
    obtain rfl:=hr9
    exact ⟨rfl,AskPost.gone_ (by rw[HF.out,hg]) hA9 hH9⟩
def CallC (l:List Ex) (nm:ByteArray):Prop:=∀(a:Int) (A:Option Addr) (c:Nat) (y:List Value) (v:V) (vv:Value) (n:Nat) (S:Nat→Prop) (w:World) (bw:Nat),Eleven y→Seen S w bw→bw<w.heap.size→n≤1048576→PartsS w S A l→RdS w S v vv→tameV v→Words w S 1 kindWords→Hold w bw 0 (.int .i64 n) →
 Calls Tryz.prog 66 #[.pointer (some ⟨bw,0,none⟩),eV oCall a (.slice A l.length c) nm y,vv] w (AskPost S bw (callA nm a (askL l) v n) w)
theorem ask_call (a:Int) (l:List Ex) (nm:ByteArray) (t:Tm) (hcall:CallC l nm):AskC (.mk oCall a l nm t):=by
 intro x v vv n S w bw hS hbw hn hx hv ht hw hh
 by_cases hlim:1048576<n+1
 ·exact ask_over _ _ _ _ _ x v vv n S w bw hS hbw hn hx hh hlim
 obtain ⟨A,c,y,rfl,hops,ha,hns,hty,hll,hp⟩:=hx
 have hy:Eleven y:=hty.elevenS
 have HBad:=Hd (fun (W:World)=>bad_any oCall a (.slice A l.length c) nm y hy rfl W)
 have HCl:=Hd (fun (W:World) (hW:Aside bw w W) (hH:Hold W bw 0 (.int .i64 ((n+1:Nat):Int)))=>hcall a A c y v vv (n+1) S W bw hy (hS.to hW.size) (Nat.lt_of_lt_of_le hbw hW.size) (by omega) (PartsS.asideS hp hS hW) (hv.aside hS hW) ht (hw.aside hS hW) hH)
 obtain ⟨n0,n1,n2,n3,n4,n5,n6,n7,n8,n9,n10,rfl,h1c⟩:=hy
 clear h1c
 have hne:w.heap.size≠bw:=by omega
 have hh1:Hold (w.setCell ⟨bw,0,none⟩ (.int .i64 ((n:Int)+1))) bw 0 (.int .i64 ((n+1:Nat):Int)):=hh.set _
 have hbw0:bw<(w.setCell ⟨bw,0,none⟩ (.int .i64 ((n:Int)+1))).heap.size:=by simp;omega
 have hba:Below (w.setCell ⟨bw,0,none⟩ (.int .i64 ((n:Int)+1))).heap.size (w.setCell ⟨bw,0,none⟩ (.int .i64 ((n:Int)+1))) ((w.setCell ⟨bw,0,none⟩ (.int .i64 ((n:Int)+1))).alloc (.cells #[.string oCall,.int .i64 a,.slice A l.length c,.string nm,n0,n1,n2,n3,n4,n5,n6,n7,n8,n9,n10] 32)):=bnew
 have HA1:Hid (Aside bw w ((w.setCell ⟨bw,0,none⟩ (.int .i64 ((n:Int)+1))).alloc (.cells #[.string oCall,.int .i64 a,.slice A l.length c,.string nm,n0,n1,n2,n3,n4,n5,n6,n7,n8,n9,n10] 32))):=Hd ((Aside.set 0 _).trans (Aside.of_below hba))
 have HH1:Hid (Hold ((w.setCell ⟨bw,0,none⟩ (.int .i64 ((n:Int)+1))).alloc (.cells #[.string oCall,.int .i64 a,.slice A l.length c,.string nm,n0,n1,n2,n3,n4,n5,n6,n7,n8,n9,n10] 32)) bw 0 (.int .i64 ((n+1:Nat):Int))):=Hd (hh1.below hba hbw0)
 have e0:wrap64 ((n:Int)+1)=(n:Int)+1:=by unfold wrap64;omega
 obtain ⟨hc0,hf0⟩:=hh
 have hc1:(w.setCell ⟨bw,0,none⟩ (.int .i64 ((n:Int)+1))).cell? ⟨bw,0,none⟩=some (.int .i64 ((n:Int)+1)):=hh1.1
 have hbw1:bw<((w.setCell ⟨bw,0,none⟩ (.int .i64 ((n:Int)+1))).alloc (.cells #[.string oCall,.int .i64 a,.slice A l.length c,.string nm,n0,n1,n2,n3,n4,n5,n6,n7,n8,n9,n10] 32)).heap.size:=by simp;omega
 have hS1:Seen S ((w.setCell ⟨bw,0,none⟩ (.int .i64 ((n:Int)+1))).alloc (.cells #[.string oCall,.int .i64 a,.slice A l.length c,.string nm,n0,n1,n2,n3,n4,n5,n6,n7,n8,n9,n10] 32)) bw:=hS.to HA1.out.size
 clear hh1 hba
 have HU:Hid (askV (.mk oCall a l nm t) v n=callA nm a (askL l) v (n+1)):=Hd (by rw[askV];unfold stepA;rw[if_neg (by omega),if_neg (by decide),if_neg (by decide),if_neg (by decide),if_neg (by decide),if_neg (by decide),if_neg (by decide),if_neg (by decide),if_neg (by decide),if_neg (by decide),if_neg (by decide),if_pos rfl])
 have ho':¬(1048576:Int)<(n:Int)+1:=by omega
 clear hcall hp hv hw hty
 unfold termOf eV at *
 go_enter Tryz.func44,Tryz.ntmps44
 go_wp2_with fail
 refine (HCl.out _ HA1.out HH1.out).mono ?_
 rintro e w9 hr9
 have hP:=AskPost.eq_ HU.out (AskPost.chain hr9 HA1.out (fun b h=>.inl h))
 obtain ⟨hA9,hH9,h9⟩:=hr9
 generalize callA nm a (askL l) v (n+1)=r9 at *
 obtain ⟨o9,m9⟩:=r9
 cases o9 with
 | val t9 =>
  obtain ⟨v9,rfl,hv9⟩:=h9
  go_wp2
  go_ret
  exact hP
 | gone gb gw =>
  obtain rfl:=h9
  exact ⟨rfl,hP⟩
theorem call_one {p0:Ex} {nm:ByteArray} (ih0:AskC p0) (h:nm∈[gLen,gKind,gKeys,gFirst,gLast,gSum,gLeast,gMost]):CallC [p0] nm:=by
 intro a A c y v vv n S w bw hy hS hbw hn hp hv ht hw hh
 simp only[List.mem_cons,List.mem_nil_iff,or_false]at h
 rcases h with rfl|rfl|rfl|rfl|rfl|rfl|rfl|rfl
 ·exact call_len a p0 A c y hy ih0 v vv n S w bw hS hbw hn hp hv ht hw hh
 ·exact call_kind a p0 A c y hy ih0 v vv n S w bw hS hbw hn hp hv ht hw hh
 ·exact call_keys a p0 A c y hy ih0 v vv n S w bw hS hbw hn hp hv ht hw hh
 ·exact call_lists gFirst (by simp) (by decide) (by decide) turns_gFirst a p0 A c y hy ih0 v vv n S w bw hS hbw hn hp hv ht hw hh
 ·exact call_lists gLast (by simp) (by decide) (by decide) turns_gLast a p0 A c y hy ih0 v vv n S w bw hS hbw hn hp hv ht hw hh
 ·exact call_lists gSum (by simp) (by decide) (by decide) turns_gSum a p0 A c y hy ih0 v vv n S w bw hS hbw hn hp hv ht hw hh
 ·exact call_lists gLeast (by simp) (by decide) (by decide) turns_gLeast a p0 A c y hy ih0 v vv n S w bw hS hbw hn hp hv ht hw hh
 ·exact call_lists gMost (by simp) (by decide) (by decide) turns_gMost a p0 A c y hy ih0 v vv n S w bw hS hbw hn hp hv ht hw hh
theorem call_two {p0 p1:Ex} {nm:ByteArray} (ih0:AskC p0) (ih1:AskC p1) (h:nm∈[gHas,gAny,gAll,gMap,gPick]):CallC [p0,p1] nm:=by
 intro a A c y v vv n S w bw hy hS hbw hn hp hv ht hw hh
 simp only[List.mem_cons,List.mem_nil_iff,or_false]at h
 rcases h with rfl|rfl|rfl|rfl|rfl
 ·exact call_has a p0 p1 A c y hy ih0 ih1 v vv n S w bw hS hbw hn hp hv ht hw hh
 ·exact call_any a p0 p1 A c y hy ih0 ih1 v vv n S w bw hS hbw hn hp hv ht hw hh
 ·exact call_all a p0 p1 A c y hy ih0 ih1 v vv n S w bw hS hbw hn hp hv ht hw hh
 ·exact call_map a p0 p1 A c y hy ih0 ih1 v vv n S w bw hS hbw hn hp hv ht hw hh
 ·exact call_pick a p0 p1 A c y hy ih0 ih1 v vv n S w bw hS hbw hn hp hv ht hw hh
def opOK (op nm:ByteArray) (l:List Ex):Prop:=
 op∈[oValue,oSelf,oField,oOr,oAnd,oList]∨(op∈[oNot,oDot,oNeg,oIs]∧l.length=1) ∨
 (op=oCall∧((l.length=1∧nm∈[gLen,gKind,gKeys,gFirst,gLast,gSum,gLeast,gMost])∨(l.length=2∧nm∈[gHas,gAny,gAll,gMap,gPick])))∨(op∈[oAt,oIn,oAdd,oSub,oMul,oDiv,oRem,oEq,oNe,oLt,oGt,oLe,oGe]∧l.length=2)
mutual
def canE:Ex→Prop
 | .mk op _ l nm _=>opOK op nm l∧canEL l
def canEL:List Ex→Prop
 | []=>True
 | x :: r=>canE x∧canEL r
end
theorem canEL_iff {l:List Ex}:canEL l↔∀x∈l,canE x:=by
 induction l with
 | nil=>simp[canEL]
 | cons x r ih=>simp[canEL,ih]
theorem two_of {l:List Ex} (h:l.length=2):∃a b,l=[a,b]:=by
 match l,h with
 | [a,b],_=>exact ⟨a,b,rfl⟩
theorem ask_any (e:Ex):canE e→AskC e:=by
 induction e using Ex.ind with
 | h op a l nm t ih =>
  rintro ⟨h,hl⟩
  have ih':∀x∈l,AskC x:=fun x hx=>ih x hx (canEL_iff.1 hl x hx)
  rcases h with h|⟨h,h1⟩|⟨rfl,⟨h1,h⟩|⟨h1,h⟩⟩|⟨h,h1⟩
  ·simp only[List.mem_cons,List.mem_nil_iff,or_false]at h
   rcases h with rfl|rfl|rfl|rfl|rfl|rfl
   ·exact ask_value a l nm t
   ·exact ask_self a l nm t
   ·exact ask_field a l nm t
   ·exact ask_or a l nm t ih'
   ·exact ask_and a l nm t ih'
   ·exact ask_list a l nm t ih'
  ·obtain ⟨p0,rfl⟩:=List.length_eq_one_iff.1 h1
   have i0:=ih' p0 (by simp)
   simp only[List.mem_cons,List.mem_nil_iff,or_false]at h
   rcases h with rfl|rfl|rfl|rfl
   ·exact ask_not a p0 nm t i0
   ·exact ask_dot a p0 nm t i0
   ·exact ask_neg a p0 nm t i0
   ·exact ask_is a p0 nm t i0
  ·obtain ⟨p0,rfl⟩:=List.length_eq_one_iff.1 h1
   exact ask_call a [p0] nm t (call_one (ih' p0 (by simp)) h)
  ·obtain ⟨p0,p1,rfl⟩:=two_of h1
   exact ask_call a [p0,p1] nm t (call_two (ih' p0 (by simp)) (ih' p1 (by simp)) h)
  ·obtain ⟨p0,p1,rfl⟩:=two_of h1
   have i0:=ih' p0 (by simp)
   have i1:=ih' p1 (by simp)
   simp only[List.mem_cons,List.mem_nil_iff,or_false]at h
   rcases h with rfl|rfl|rfl|rfl|rfl|rfl|rfl|rfl|rfl|rfl|rfl|rfl|rfl
   ·exact ask_pAt a p0 p1 nm t i0 i1
   ·exact ask_pIn a p0 p1 nm t i0 i1
   ·exact ask_pAdd a p0 p1 nm t i0 i1
   ·exact ask_pSub a p0 p1 nm t i0 i1
   ·exact ask_pMul a p0 p1 nm t i0 i1
   ·exact ask_pDiv a p0 p1 nm t i0 i1
   ·exact ask_pRem a p0 p1 nm t i0 i1
   ·exact ask_pEq a p0 p1 nm t i0 i1
   ·exact ask_pNe a p0 p1 nm t i0 i1
   ·exact ask_pLt a p0 p1 nm t i0 i1
   ·exact ask_pGt a p0 p1 nm t i0 i1
   ·exact ask_pLe a p0 p1 nm t i0 i1
   ·exact ask_pGe a p0 p1 nm t i0 i1
def wordList:List ByteArray:=[⟨#[111,114]⟩,⟨#[97,110,100]⟩,⟨#[110,111,116]⟩,⟨#[105,110]⟩,⟨#[105,115]⟩,⟨#[110,105,108]⟩,⟨#[116,114,117,101]⟩,⟨#[102,97,108,115,101]⟩,⟨#[115,101,108,102]⟩,⟨#[110,97,110]⟩]
open Classical in
noncomputable def partOK (op nm:ByteArray) (t:Tm):Bool:=
 if op=oValue then literalB t
 else if op=oField then nameOK nm&&!decide (0≤idxW wordList nm 0)
 else if op=oDot then nameOK nm
 else if op=oIs then decide (nm≠⟨#[]⟩)&&decide (0≤idxW kindWords nm 0)
 else true
def canAll:List (Int→Bool×Int)→Int→Bool×Int
 | [],k=>(true,k)
 | f :: r,k=>if (f k).1=true then canAll r (f k).2 else (false,(f k).2)
open Classical in
noncomputable def canS (op nm:ByteArray) (t:Tm) (l:List (Int→Bool×Int)) (k:Int):Bool×Int:=
 if k-1<0∨takesV op nm<0∨(takesV op nm≠9∧(l.length:Int)≠takesV op nm) then (false,k-1)
 else if partOK op nm t=true then canAll l (k-1) else (false,k-1)
mutual
noncomputable def canV:Ex→Int→Bool×Int
 | .mk op _ l nm t,k=>canS op nm t (canVL l) k
noncomputable def canVL:List Ex→List (Int→Bool×Int)
 | []=>[]
 | x :: r=>canV x :: canVL r
end
theorem canVL_eq (l:List Ex):canVL l=l.map canV:=by
 induction l with
 | nil=>rfl
 | cons x r ih=>simp[canVL,ih]
theorem canAll_true:∀(l:List (Int→Bool×Int)) (k:Int),(canAll l k).1=true→∀f∈l,∃k',(f k').1=true
 | [],_,_,f,hf=>by cases hf
 | g :: r,k,h,f,hf=>by
  rw[canAll]at h
  by_cases hg:(g k).1=true
  ·rw[if_pos hg]at h
   rcases List.mem_cons.1 hf with rfl|hf
   ·exact ⟨k,hg⟩
   ·exact canAll_true r _ h f hf
  ·rw[if_neg hg]at h;cases h
theorem fn_ok {nm:ByteArray} {k:Int} (h:(fnO nm).getD (-1)=k) (hk:0≤k):(k=1∧nm∈[gLen,gKind,gKeys,gFirst,gLast,gSum,gLeast,gMost])∨(k=2∧nm∈[gHas,gAny,gAll,gMap,gPick]):=by
 unfold fnO at h
 split at h
 ·rename_i hm;exact .inl ⟨h.symm,hm⟩
 ·split at h
  ·rename_i hm;exact .inr ⟨h.symm,hm⟩
  ·change -1=k at h;omega
theorem takes_ok {op nm:ByteArray} {l:List Ex} (h0:0≤takesV op nm) (h:takesV op nm=9∨(l.length:Int)=takesV op nm):opOK op nm l:=by
 unfold takesV at h0 h
 split at h0
 ·rename_i e;subst e;exact .inl (by simp)
 rename_i e1
 rw[if_neg e1]at h
 split at h0
 ·rename_i e;subst e
  rw[if_pos rfl]at h
  rcases fn_ok rfl h0 with ⟨hk,hm⟩|⟨hk,hm⟩
  ·exact .inr (.inr (.inl ⟨rfl,.inl ⟨by omega,hm⟩⟩))
  ·exact .inr (.inr (.inl ⟨rfl,.inr ⟨by omega,hm⟩⟩))
 rename_i e2
 rw[if_neg e2]at h
 split at h0
 ·rename_i e;exact .inl (by simp only[List.mem_cons,List.mem_nil_iff,or_false]at e ⊢;rcases e with rfl|rfl|rfl <;> simp)
 rename_i e3
 rw[if_neg e3]at h
 split at h0
 ·rename_i e
  rw[if_pos e]at h
  exact .inr (.inl ⟨by simp only[List.mem_cons,List.mem_nil_iff,or_false]at e ⊢;rcases e with rfl|rfl|rfl|rfl <;> simp,by omega⟩)
 rename_i e4
 rw[if_neg e4]at h
 split at h0
 ·rename_i e
  rw[if_pos e]at h
  unfold levelled at e
  simp only[List.mem_cons,List.mem_nil_iff,or_false]at e
  rcases e with rfl|rfl|rfl|rfl|rfl|rfl|rfl|rfl|rfl|rfl|rfl|rfl|rfl|rfl|rfl|rfl|rfl|rfl|rfl
  ·exact .inl (by simp)
  ·exact .inl (by simp)
  ·exact absurd (by simp) e4
  ·exact .inr (.inr (.inr ⟨by simp,by omega⟩))
  ·exact .inr (.inr (.inr ⟨by simp,by omega⟩))
  ·exact .inr (.inr (.inr ⟨by simp,by omega⟩))
  ·exact .inr (.inr (.inr ⟨by simp,by omega⟩))
  ·exact .inr (.inr (.inr ⟨by simp,by omega⟩))
  ·exact .inr (.inr (.inr ⟨by simp,by omega⟩))
  ·exact .inr (.inr (.inr ⟨by simp,by omega⟩))
  ·exact absurd (by simp) e4
  ·exact .inr (.inr (.inr ⟨by simp,by omega⟩))
  ·exact .inr (.inr (.inr ⟨by simp,by omega⟩))
  ·exact .inr (.inr (.inr ⟨by simp,by omega⟩))
  ·exact .inr (.inr (.inr ⟨by simp,by omega⟩))
  ·exact .inr (.inr (.inr ⟨by simp,by omega⟩))
  ·exact absurd (by simp) e4
  ·exact absurd (by simp) e4
  ·exact .inr (.inr (.inr ⟨by simp,by omega⟩))
 ·omega
theorem canV_ok (e:Ex):∀k,(canV e k).1=true→canE e:=by
 induction e using Ex.ind with
 | h op a l nm t ih =>
  intro k h
  rw[canV]at h
  unfold canS at h
  split at h
  ·cases h
  ·rename_i hc
   split at h
   ·refine ⟨takes_ok (by omega) ?_,canEL_iff.2 fun x hx=>?_⟩
    ·have:(canVL l).length=l.length:=by rw[canVL_eq];simp
     rw[this]at hc
     omega
    ·obtain ⟨k',hk'⟩:=canAll_true _ _ h (canV x) (by rw[canVL_eq];exact List.mem_map.2 ⟨x,hx,rfl⟩)
     exact ih x hx k' hk'
   ·cases h
end Go.Proofs.YtbemeapjeipjlaaGreatDoor
