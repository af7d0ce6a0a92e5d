/- Walks: query.walk.each. -/
import Derived.Test.YtbemeapjeipjlaaGreatDoorQN12
import Derived.Test.YtbemeapjeipjlaaGreatDoorQN15
set_option linter.unusedVariables false
set_option linter.unusedSimpArgs false
namespace Go.Proofs.YtbemeapjeipjlaaGreatDoor
open Go Go.RowKit
set_option maxRecDepth 100000
set_option maxHeartbeats 8000000
attribute [local go_sem] ta_no_bool ta_yes_bool ta_nil_bool ta_no_int64 ta_yes_int64 ta_nil_int64 ta_no_flt ta_yes_flt ta_nil_flt ta_no_str ta_yes_str ta_nil_str ta_no_byt ta_yes_byt ta_nil_byt ta_no_ref ta_yes_ref ta_nil_ref ta_no_lst ta_yes_lst ta_nil_lst ta_no_dct ta_yes_dct ta_nil_dct ta_no_rec ta_yes_rec ta_nil_rec
theorem eachA_map (a:Int) (f:Ask) (x:V) (r o:List V) (n:Nat):eachA gMap a f (x :: r) o n=bindA (f x n) fun y m=>eachA gMap a f r (o++[y]) m:=by
 rw[eachA];rfl
theorem eachA_any (a:Int) (f:Ask) (x:V) (r o:List V) (n:Nat):eachA gAny a f (x :: r) o n=bindA (f x n) fun y m=>match y with
  | .bool b=>if b=true then (.val (.bool true),m) else eachA gAny a f r o m
  | _=>(.gone a 172,m):=by
 rw[eachA]
 refine congrArg (bindA (f x n)) ?_
 funext y m
 rw[if_neg (by decide)]
 cases y with
 | bool b=>cases b <;> rfl
 | _=>rfl
theorem eachA_all (a:Int) (f:Ask) (x:V) (r o:List V) (n:Nat):eachA gAll a f (x :: r) o n=bindA (f x n) fun y m=>match y with
  | .bool b=>if b=true then eachA gAll a f r o m else (.val (.bool false),m)
  | _=>(.gone a 172,m):=by
 rw[eachA]
 refine congrArg (bindA (f x n)) ?_
 funext y m
 rw[if_neg (by decide)]
 cases y with
 | bool b=>cases b <;> rfl
 | _=>rfl
theorem eachA_pick (a:Int) (f:Ask) (x:V) (r o:List V) (n:Nat):eachA gPick a f (x :: r) o n=bindA (f x n) fun y m=>match y with
  | .bool b=>if b=true then eachA gPick a f r (o++[x]) m else eachA gPick a f r o m
  | _=>(.gone a 172,m):=by
 rw[eachA]
 refine congrArg (bindA (f x n)) ?_
 funext y m
 rw[if_neg (by decide)]
 cases y with
 | bool b=>cases b <;> rfl
 | _=>rfl
theorem OwnV.aside {F:Nat→Prop} {w w':World} {B bw:Nat} {v:Value} {l:List V} (h:OwnV F w B v l) (hF:∀b,F b→b≠bw) (hB:bw<B) (ha:Aside bw w w'):OwnV F w' B v l:=by
 obtain ⟨xs,ho,hx⟩:=h
 refine ⟨xs,⟨ho.1,?_⟩,fun i x hi=>?_⟩
 ·rcases ho.2 with hn|⟨g,cap,cur,rfl,hg,hgg,rest⟩
  ·exact .inl hn
  ·exact .inr ⟨g,cap,cur,rfl,hg,by rw[ha.block g (Array.getElem?_eq_some_iff.1 hgg).1 (by omega)];exact hgg,rest⟩
 ·obtain ⟨u,hu,hr⟩:=hx i x hi
  exact ⟨u,hu,RdS.more (fun b hb'=>⟨hb'.1,Nat.lt_of_lt_of_le hb'.2.1 ha.size,hb'.2.2⟩) _ _ (RdS.keep (fun p hp=>ha.cell hp.2.1 (hF _ hp.1)) _ _ hr)⟩
theorem Aside.grown {bw:Nat} {a w w':World} {row:Option Nat} (h:Aside bw a w) (hg:w.grownBy w' row) (hr:∀k,row=some k→a.heap.size≤k):Aside bw a w':=
 ⟨hg.os.trans h.os,hg.tape.trans h.tape,hg.output.trans h.output,Nat.le_trans h.size hg.size,fun k hk hn=>(hg.block k (Nat.lt_of_lt_of_le hk h.size) (fun e=>by have:=hr k e.symm;omega)).trans (h.block k hk hn)⟩
theorem Hold.grown {w w':World} {bw k:Nat} {v:Value} {row:Option Nat} (h:Hold w bw k v) (hg:w.grownBy w' row) (hl:bw<w.heap.size) (hr:row≠some bw):Hold w' bw k v:=
 ⟨(World.cell?_of_block (a:=⟨bw,k,none⟩) (hg.block bw hl (fun e=>hr e.symm))).trans h.1,(World.frozen?_of_block (a:=⟨bw,k,none⟩) (hg.block bw hl (fun e=>hr e.symm))).trans h.2⟩
theorem Aside.grown2 {bw B:Nat} {a w w':World} {row:Option Nat} (h:Aside bw a w) (hg:w.grownBy w' row) (hr:∀k,row=some k→B≤k) (hB:a.heap.size≤B):Aside bw a w':=h.grown hg (fun k hk=>Nat.le_trans hB (hr k hk))
theorem each_map (a:Int) (p0 p1:Ex) (A:Option Addr) (c:Nat) (y:List Value) (hy:Eleven y) (ih:AskC p1) (l:List V) (Al:Option Addr) (cl n:Nat) (S:Nat→Prop) (w:World) (bw:Nat)
  (hS:Seen S w bw) (hbw:bw<w.heap.size) (hn:n≤1048576) (hp:PartsS w S A [p0,p1]) (hll:l.length≤1099511627776) (hl:ListS w S Al l) (ht:tameL l) (hw:Words w S 1 kindWords) (hh:Hold w bw 0 (.int .i64 n)) :
  Calls Tryz.prog 95 #[.pointer (some ⟨bw,0,none⟩),eV oCall a (.slice A 2 c) gMap y,.slice Al l.length cl] w (AskPost S bw (eachA gMap a (askV p1) l [] n) w):=by
 have HBad:=Hd (fun (W:World)=>bad_any oCall a (.slice A 2 c) gMap y hy rfl W)
 have HGood:=Hd (fun (x:V) (u:Value) (S':Nat→Prop) (W:World)=>good_any oCall a (.slice A 2 c) gMap y hy rfl x u S' W)
 obtain ⟨n0,n1,n2,n3,n4,n5,n6,n7,n8,n9,n10,rfl,h1⟩:=hy
 clear h1
 unfold eV at *
 obtain ⟨i0,hi0,hz0,hz1_,hz2⟩:=info_parts Tryz.infoAny
 have HB:Hid (Below w.heap.size w ((w.alloc (.cells #[.string oCall,.int .i64 a,.slice A 2 c,.string gMap,n0,n1,n2,n3,n4,n5,n6,n7,n8,n9,n10] 32)).alloc (.cells #[] 20))):=Hd (bnew.alloc (by simp) _)
 have HBX:Hid (Below w.heap.size w (w.alloc (.cells #[.string oCall,.int .i64 a,.slice A 2 c,.string gMap,n0,n1,n2,n3,n4,n5,n6,n7,n8,n9,n10] 32))):=Hd bnew
 have HA0:Hid (Aside bw w (w.alloc (.cells #[.string oCall,.int .i64 a,.slice A 2 c,.string gMap,n0,n1,n2,n3,n4,n5,n6,n7,n8,n9,n10] 32))):=Hd (Aside.of_below HBX.out)
 have HA00:Hid (Aside bw (w.alloc (.cells #[.string oCall,.int .i64 a,.slice A 2 c,.string gMap,n0,n1,n2,n3,n4,n5,n6,n7,n8,n9,n10] 32)) ((w.alloc (.cells #[.string oCall,.int .i64 a,.slice A 2 c,.string gMap,n0,n1,n2,n3,n4,n5,n6,n7,n8,n9,n10] 32)).alloc (.cells #[] 20))):=Hd (Aside.of_below bnew)
 have hh0:=hh.below HB.out hbw
 have hO0:OwnV (fun b=>S b∨w.heap.size+1≤b) ((w.alloc (.cells #[.string oCall,.int .i64 a,.slice A 2 c,.string gMap,n0,n1,n2,n3,n4,n5,n6,n7,n8,n9,n10] 32)).alloc (.cells #[] 20)) (w.heap.size+1) (.slice (some ⟨w.heap.size+1,0,none⟩) 0 0) []:=by
  have:=OwnV.empty (fun b=>S b∨w.heap.size+1≤b) (w.alloc (.cells #[.string oCall,.int .i64 a,.slice A 2 c,.string gMap,n0,n1,n2,n3,n4,n5,n6,n7,n8,n9,n10] 32)) (w.heap.size+1) (by simp)
  simpa using this
 have hFb:∀b,(S b∨w.heap.size+1≤b)→b≠bw:=fun b hb=>hb.elim (fun h=>(hS b h).2) (fun h=>by omega)
 obtain ⟨bp,offp,xs,eA,hSb,c0,hxs⟩:=hp.get (k:=1) (x:=p1) rfl
 subst eA
 rw[Nat.one_mul]at c0
 have HAsk:=Hd (fun (x:V) (vx:Value) (m:Nat) (W:World) (hm:m≤1048576) (hW:Aside bw (w.alloc (.cells #[.string oCall,.int .i64 a,.slice (some ⟨bp,offp,none⟩) 2 c,.string gMap,n0,n1,n2,n3,n4,n5,n6,n7,n8,n9,n10] 32)) W) (hhW:Hold W bw 0 (.int .i64 m)) (hx:RdS w S x vx) (hxt:tameV x)=>ih xs x vx m S W bw (hS.to (Nat.le_trans HBX.out.size hW.size)) (Nat.lt_of_lt_of_le hbw (Nat.le_trans HBX.out.size hW.size)) hm (hxs.aside hS (HA0.out.trans hW)) (hx.aside hS (HA0.out.trans hW)) hxt (hw.aside hS (HA0.out.trans hW)) hhW)
 clear ih hw hh hp
 have hcnt:=ask_count p1
 have htm:=ask_tame p1
 generalize askV p1=fa at *
 obtain ⟨op',a',l',nm',t'⟩:=p1
 obtain ⟨A',c',y',rfl,-,-,-,hty,-⟩:=hxs
 obtain ⟨m0,m1,m2,m3,m4,m5,m6,m7,m8,m9,m10,rfl,h1c⟩:=hty.elevenS
 unfold termOf at HAsk
 clear hty h1c
 go_enter Tryz.func95,Tryz.ntmps95
 go_wp2
 go_loopw [7,16] (fun s i wr=>∃(k m:Nat) (o:List V),i=.int .i64 k∧k≤l.length∧m≤1048576∧o.length≤k∧Hid (eachA gMap a fa l [] n=eachA gMap a fa (l.drop k) o m)∧Aside bw (w.alloc (.cells #[.string oCall,.int .i64 a,.slice (some ⟨bp,offp,none⟩) 2 c,.string gMap,n0,n1,n2,n3,n4,n5,n6,n7,n8,n9,n10] 32)) wr∧Hold wr bw 0 (.int .i64 m)∧OwnV (fun b=>S b∨w.heap.size+1≤b) wr (w.heap.size+1) s o) (fun _ i _=>l.length-(intOf i).toNat)
 case atStart=>exact ⟨0,n,[],rfl,by omega,hn,by simp,Hd rfl,HA00.out,hh0,hO0⟩
 case round =>
  clear hh0 hO0
  obtain ⟨k,m,o,rfl,hk,hm,hok,HT,hA,hH,hO⟩:=hrel
  obtain ⟨Ao,co,rfl⟩:=hO.form
  have hA1:=HA0.out.trans hA
  have hz:=hA1.size
  have hz1:w.heap.size+1≤wr.heap.size:=by have:=hA.size;simp at this;omega
  have hne:w.heap.size≠bw:=by omega
  have qe:=fun (o:Nat)=>hA.cell (p:=⟨w.heap.size,o,none⟩) (by simp) hne
  by_cases hlt:k<l.length
  ·obtain ⟨x,hx⟩:∃x,l[k]?=some x:=⟨_,List.getElem?_eq_getElem hlt⟩
   obtain ⟨b,off,vx,rfl,hSx,d0,hvx⟩:=hl.get hx
   have d1:=(hA1.cell (p:=⟨b,off+k,none⟩) (hS b hSx).1 (hS b hSx).2).trans d0
   have c1:=c0.keep (fun p hp=>hA1.cell (by rw[hp];exact (hS bp hSb).1) (by rw[hp];exact (hS bp hSb).2))
   have hxt:tameV x:=tameL_iff.1 ht x (List.mem_of_getElem? hx)
   have HC:=Hd (HAsk.out x vx m wr hm hA hH hvx hxt)
   have HDR:Hid (l.drop k=x :: l.drop (k+1)):=Hd (by rw[List.drop_eq_getElem_cons hlt];rw[List.getElem?_eq_getElem hlt]at hx;injection hx with hx;rw[hx])
   have HCnt:=Hd (hcnt x m hm)
   obtain ⟨q0,q1,q2,q3,q4,q5,q6,q7,q8,q9,q10,q11,q12,q13,q14⟩:=lie15 c1
   have ox:=hvx.one
   clear hl hx c0 c1 HAsk d0
   generalize hq:fa x m=q at *
   obtain ⟨ou,m2'⟩:=q
   cases ou with
   | gone ga gw =>
    have HF:Hid (eachA gMap a fa l [] n=(.gone ga gw,m2')):=Hd (by rw[HT.out,HDR.out,eachA_map,hq];rfl)
    clear hq
    go_wp2_with fail
    refine HC.out.mono ?_
    rintro e w1 ⟨hA2,hH2,rfl⟩
    exact ⟨rfl,AskPost.gone_ HF.out (hA1.trans hA2) hH2⟩
   | val u =>
    have hm2:m2'≤1048576:=HCnt.out u rfl
    have HT2:Hid (eachA gMap a fa l [] n=eachA gMap a fa (l.drop (k+1)) (o++[u]) m2'):=Hd (by rw[HT.out,HDR.out,eachA_map,hq];rfl)
    clear hq
    go_wp2_with fail
    refine HC.out.mono ?_
    rintro e w1 ⟨hA2,hH2,uv,rfl,huv⟩
    have hA3:=hA.trans hA2
    have qe3:=fun (o:Nat)=>hA3.cell (p:=⟨w.heap.size,o,none⟩) (by simp) hne
    have hO2:=hO.aside hFb (by omega) hA2
    have hba:Below w1.heap.size w1 (w1.alloc (.cells #[uv] 20)):=bnew
    have hO3:=hO2.below hba
    obtain ⟨zs0,hown0,_⟩:=hO
    have hz4:wr.heap.size≤w1.heap.size:=hA2.size
    have hu2:RdS (w1.alloc (.cells #[uv] 20)) (Fresh (fun b=>S b∨w.heap.size+1≤b) (w1.alloc (.cells #[uv] 20)) (.slice Ao o.length co)) u uv:=RdS.more (fun b hb=>⟨hb.elim .inl (fun h=>.inr (by have:=h.1;omega)),by rcases hb with h|h;(have:=(hS b h).1;simp;omega);(have:=h.2;simp;omega),fun e=>by have h3:=hown0.lt b e;rcases hb with h|h;(have:=(hS b h).1;omega);(have:=h.1;omega)⟩) _ _ (RdS.keep (fun p hp=>hba.cell (by rcases hp with h|h;(have:=(hS _ h).1;omega);exact h.2)) _ _ huv)
    obtain ⟨zs,hown,hzs⟩:=hO3
    have hou:=hu2.one
    have hA4:=hA3.trans (Aside.of_below hba)
    have hH4:=hH2.below hba (by omega)
    have hz5:w.heap.size+1≤((w1.alloc (.cells #[uv] 20))).heap.size:=by simp;omega
    rcases hu2.face with rfl|⟨ty,yy,rfl⟩
    all_goals
     go_wp2_with (at_builtin;go_must (refine wpList_append_lies _ rfl (.tmp 30) (.tmp 32) 73 rfl (w.heap.size+1) 20 i0 _ 1 16 Tryz.underlying73 hi0 hz0 hz1_ hz2 rfl (by omega) (.slice Ao o.length co) o.length zs rfl hown ⟨w1.heap.size,0,none⟩ 1 1 [_] rfl rfl (news_at rfl) (one_of1 hou) (by omega) (by simp only[maxLen];omega) (by omega) hz5 _ rfl ?_);intro g cap w2 hown2 hg2 hat hlt2)
     have hO5:=OwnV.snoc rfl hown hzs hu2 hown2 hg2 hat
     have hrow:∀k,Value.ownBlock (.slice Ao o.length co)=some k→w.heap.size+1≤k:=fun k hk=>(hown.lt k hk).1
     refine ⟨⟨k+1,m2',o++[u],rfl,hlt,hm2,by simp;omega,HT2,hA4.grown2 hg2 hrow (by simp),hH4.grown hg2 (by simp;omega) (fun e=>by have:=hrow bw e;omega),hO5⟩,?_⟩
     simp[intOf];omega
  ·obtain rfl:k=l.length:=by omega
   have HF:Hid (eachA gMap a fa l [] n=(goodV a (.list o),m)):=Hd (by rw[HT.out,List.drop_length,eachA];rfl)
   have hR:=hO.read (by omega)
   have HG:=Hd (HGood.out (.list o) (.iface 73 (.slice Ao o.length co)) _ wr (fun b hb=>hb.2) hR)
   clear hO hR
   go_wp2_with fail
   refine HG.out.mono ?_
   rintro e w9 ⟨hb9,hr9⟩
   have hA9:=hA1.trans (Aside.of_below hb9)
   have hH9:=hH.below hb9 (by omega)
   cases hg:goodV a (.list o)with
   | val t =>
    rw[hg]at hr9
    obtain ⟨v9,rfl,hv9⟩:=hr9
    go_wp2
    go_ret
    exact AskPost.val_ (by rw[HF.out,hg]) hA9 hH9 (RdS.more (fun b hb=>hb.elim (fun h=>h.1.elim (fun h'=>h'.elim .inl (fun h'=>.inr ⟨by omega,Nat.lt_of_lt_of_le h.2 hb9.size⟩)) (fun h'=>.inr ⟨by omega,Nat.lt_of_lt_of_le h.2 hb9.size⟩)) (fun h=>.inr ⟨Nat.le_trans hz h.1,h.2⟩)) _ _ hv9)
   | gone b why =>
    rw[hg]at hr9
    obtain rfl:=hr9
    exact ⟨rfl,AskPost.gone_ (by rw[HF.out,hg]) hA9 hH9⟩
theorem each_any (a:Int) (p0 p1:Ex) (A:Option Addr) (c:Nat) (y:List Value) (hy:Eleven y) (ih:AskC p1) (l:List V) (Al:Option Addr) (cl n:Nat) (S:Nat→Prop) (w:World) (bw:Nat)
  (hS:Seen S w bw) (hbw:bw<w.heap.size) (hn:n≤1048576) (hp:PartsS w S A [p0,p1]) (hll:l.length≤1099511627776) (hl:ListS w S Al l) (ht:tameL l) (hw:Words w S 1 kindWords) (hh:Hold w bw 0 (.int .i64 n)) :
  Calls Tryz.prog 95 #[.pointer (some ⟨bw,0,none⟩),eV oCall a (.slice A 2 c) gAny y,.slice Al l.length cl] w (AskPost S bw (eachA gAny a (askV p1) l [] n) w):=by
 have HBad:=Hd (fun (W:World)=>bad_any oCall a (.slice A 2 c) gAny y hy rfl W)
 have HGood:=Hd (fun (x:V) (u:Value) (S':Nat→Prop) (W:World)=>good_any oCall a (.slice A 2 c) gAny y hy rfl x u S' W)
 obtain ⟨n0,n1,n2,n3,n4,n5,n6,n7,n8,n9,n10,rfl,h1⟩:=hy
 clear h1
 unfold eV at *
 obtain ⟨i0,hi0,hz0,hz1_,hz2⟩:=info_parts Tryz.infoAny
 have HB:Hid (Below w.heap.size w ((w.alloc (.cells #[.string oCall,.int .i64 a,.slice A 2 c,.string gAny,n0,n1,n2,n3,n4,n5,n6,n7,n8,n9,n10] 32)).alloc (.cells #[] 20))):=Hd (bnew.alloc (by simp) _)
 have HBX:Hid (Below w.heap.size w (w.alloc (.cells #[.string oCall,.int .i64 a,.slice A 2 c,.string gAny,n0,n1,n2,n3,n4,n5,n6,n7,n8,n9,n10] 32))):=Hd bnew
 have HA0:Hid (Aside bw w (w.alloc (.cells #[.string oCall,.int .i64 a,.slice A 2 c,.string gAny,n0,n1,n2,n3,n4,n5,n6,n7,n8,n9,n10] 32))):=Hd (Aside.of_below HBX.out)
 have HA00:Hid (Aside bw (w.alloc (.cells #[.string oCall,.int .i64 a,.slice A 2 c,.string gAny,n0,n1,n2,n3,n4,n5,n6,n7,n8,n9,n10] 32)) ((w.alloc (.cells #[.string oCall,.int .i64 a,.slice A 2 c,.string gAny,n0,n1,n2,n3,n4,n5,n6,n7,n8,n9,n10] 32)).alloc (.cells #[] 20))):=Hd (Aside.of_below bnew)
 have hh0:=hh.below HB.out hbw
 have hO0:OwnV (fun b=>S b∨w.heap.size+1≤b) ((w.alloc (.cells #[.string oCall,.int .i64 a,.slice A 2 c,.string gAny,n0,n1,n2,n3,n4,n5,n6,n7,n8,n9,n10] 32)).alloc (.cells #[] 20)) (w.heap.size+1) (.slice (some ⟨w.heap.size+1,0,none⟩) 0 0) []:=by
  have:=OwnV.empty (fun b=>S b∨w.heap.size+1≤b) (w.alloc (.cells #[.string oCall,.int .i64 a,.slice A 2 c,.string gAny,n0,n1,n2,n3,n4,n5,n6,n7,n8,n9,n10] 32)) (w.heap.size+1) (by simp)
  simpa using this
 have hFb:∀b,(S b∨w.heap.size+1≤b)→b≠bw:=fun b hb=>hb.elim (fun h=>(hS b h).2) (fun h=>by omega)
 obtain ⟨bp,offp,xs,eA,hSb,c0,hxs⟩:=hp.get (k:=1) (x:=p1) rfl
 subst eA
 rw[Nat.one_mul]at c0
 have HAsk:=Hd (fun (x:V) (vx:Value) (m:Nat) (W:World) (hm:m≤1048576) (hW:Aside bw (w.alloc (.cells #[.string oCall,.int .i64 a,.slice (some ⟨bp,offp,none⟩) 2 c,.string gAny,n0,n1,n2,n3,n4,n5,n6,n7,n8,n9,n10] 32)) W) (hhW:Hold W bw 0 (.int .i64 m)) (hx:RdS w S x vx) (hxt:tameV x)=>ih xs x vx m S W bw (hS.to (Nat.le_trans HBX.out.size hW.size)) (Nat.lt_of_lt_of_le hbw (Nat.le_trans HBX.out.size hW.size)) hm (hxs.aside hS (HA0.out.trans hW)) (hx.aside hS (HA0.out.trans hW)) hxt (hw.aside hS (HA0.out.trans hW)) hhW)
 clear ih hw hh hp
 have hcnt:=ask_count p1
 have htm:=ask_tame p1
 generalize askV p1=fa at *
 obtain ⟨op',a',l',nm',t'⟩:=p1
 obtain ⟨A',c',y',rfl,-,-,-,hty,-⟩:=hxs
 obtain ⟨m0,m1,m2,m3,m4,m5,m6,m7,m8,m9,m10,rfl,h1c⟩:=hty.elevenS
 unfold termOf at HAsk
 clear hty h1c
 go_enter Tryz.func95,Tryz.ntmps95
 go_wp2
 go_loopw [7,16] (fun s i wr=>∃(k m:Nat) (o:List V),i=.int .i64 k∧k≤l.length∧m≤1048576∧o.length≤k∧Hid (eachA gAny a fa l [] n=eachA gAny a fa (l.drop k) o m)∧Aside bw (w.alloc (.cells #[.string oCall,.int .i64 a,.slice (some ⟨bp,offp,none⟩) 2 c,.string gAny,n0,n1,n2,n3,n4,n5,n6,n7,n8,n9,n10] 32)) wr∧Hold wr bw 0 (.int .i64 m)∧OwnV (fun b=>S b∨w.heap.size+1≤b) wr (w.heap.size+1) s o) (fun _ i _=>l.length-(intOf i).toNat)
 case atStart=>exact ⟨0,n,[],rfl,by omega,hn,by simp,Hd rfl,HA00.out,hh0,hO0⟩
 case round =>
  clear hh0 hO0
  obtain ⟨k,m,o,rfl,hk,hm,hok,HT,hA,hH,hO⟩:=hrel
  obtain ⟨Ao,co,rfl⟩:=hO.form
  have hA1:=HA0.out.trans hA
  have hz:=hA1.size
  have hz1:w.heap.size+1≤wr.heap.size:=by have:=hA.size;simp at this;omega
  have hne:w.heap.size≠bw:=by omega
  have qe:=fun (o:Nat)=>hA.cell (p:=⟨w.heap.size,o,none⟩) (by simp) hne
  by_cases hlt:k<l.length
  ·obtain ⟨x,hx⟩:∃x,l[k]?=some x:=⟨_,List.getElem?_eq_getElem hlt⟩
   obtain ⟨b,off,vx,rfl,hSx,d0,hvx⟩:=hl.get hx
   have d1:=(hA1.cell (p:=⟨b,off+k,none⟩) (hS b hSx).1 (hS b hSx).2).trans d0
   have c1:=c0.keep (fun p hp=>hA1.cell (by rw[hp];exact (hS bp hSb).1) (by rw[hp];exact (hS bp hSb).2))
   have hxt:tameV x:=tameL_iff.1 ht x (List.mem_of_getElem? hx)
   have HC:=Hd (HAsk.out x vx m wr hm hA hH hvx hxt)
   have HDR:Hid (l.drop k=x :: l.drop (k+1)):=Hd (by rw[List.drop_eq_getElem_cons hlt];rw[List.getElem?_eq_getElem hlt]at hx;injection hx with hx;rw[hx])
   have HCnt:=Hd (hcnt x m hm)
   obtain ⟨q0,q1,q2,q3,q4,q5,q6,q7,q8,q9,q10,q11,q12,q13,q14⟩:=lie15 c1
   have ox:=hvx.one
   clear hl hx c0 c1 HAsk d0
   generalize hq:fa x m=q at *
   obtain ⟨ou,m2'⟩:=q
   cases ou with
   | gone ga gw =>
    have HF:Hid (eachA gAny a fa l [] n=(.gone ga gw,m2')):=Hd (by rw[HT.out,HDR.out,eachA_any,hq];rfl)
    clear hq
    go_wp2_with fail
    refine HC.out.mono ?_
    rintro e w1 ⟨hA2,hH2,rfl⟩
    exact ⟨rfl,AskPost.gone_ HF.out (hA1.trans hA2) hH2⟩
   | val u =>
    have hm2:m2'≤1048576:=HCnt.out u rfl
    by_cases h2:kindV u=2
    case neg =>
     have HF:Hid (eachA gAny a fa l [] n=(.gone a 172,m2')):=Hd (by rw[HT.out,HDR.out,eachA_any,hq];cases u <;> first|rfl|exact absurd rfl h2)
     clear hq
     go_wp2_with fail
     refine HC.out.mono ?_
     rintro e w1 ⟨hA2,hH2,uv,rfl,huv⟩
     have hA3:=hA.trans hA2
     have qe3:=fun (o:Nat)=>hA3.cell (p:=⟨w.heap.size,o,none⟩) (by simp) hne
     have k0:=fun (W:World)=>not_bool huv 20 W h2
     go_wp2_with fail
     refine (HBad.out _).mono ?_
     rintro e w9 ⟨rfl,hb9⟩
     exact ⟨rfl,AskPost.gone_ HF.out (HA0.out.trans (hA3.trans (Aside.of_below hb9))) (hH2.below hb9 (by have:=hA3.size;simp at this;omega))⟩
    case pos =>
    obtain ⟨ub,rfl⟩:=kind_is_bool h2
    clear h2
    cases ub
    ·have HT2:Hid (eachA gAny a fa l [] n=eachA gAny a fa (l.drop (k+1)) o m2'):=Hd (by rw[HT.out,HDR.out,eachA_any,hq];rfl)
     clear hq
     go_wp2_with fail
     refine HC.out.mono ?_
     rintro e w1 ⟨hA2,hH2,uv,rfl,huv⟩
     have hA3:=hA.trans hA2
     have qe3:=fun (o:Nat)=>hA3.cell (p:=⟨w.heap.size,o,none⟩) (by simp) hne
     obtain rfl:=huv
     have hO2:=hO.aside hFb (by omega) hA2
     go_wp2
     refine ⟨⟨k+1,m2',o,rfl,hlt,hm2,by omega,HT2,hA3,hH2,hO2⟩,?_⟩
     simp[intOf];omega
    ·have HF:Hid (eachA gAny a fa l [] n=(.val (.bool true),m2')):=Hd (by rw[HT.out,HDR.out,eachA_any,hq];rfl)
     clear hq
     go_wp2_with fail
     refine HC.out.mono ?_
     rintro e w1 ⟨hA2,hH2,uv,rfl,huv⟩
     have hA3:=hA.trans hA2
     have qe3:=fun (o:Nat)=>hA3.cell (p:=⟨w.heap.size,o,none⟩) (by simp) hne
     obtain rfl:=huv
     go_wp2
     go_ret
     exact AskPost.val_ HF.out (HA0.out.trans hA3) hH2 rfl
  ·obtain rfl:k=l.length:=by omega
   have HF:Hid (eachA gAny a fa l [] n=(.val (.bool false),m)):=Hd (by rw[HT.out,List.drop_length,eachA];rfl)
   go_wp2
   go_ret
   exact AskPost.val_ HF.out hA1 hH rfl
theorem each_all (a:Int) (p0 p1:Ex) (A:Option Addr) (c:Nat) (y:List Value) (hy:Eleven y) (ih:AskC p1) (l:List V) (Al:Option Addr) (cl n:Nat) (S:Nat→Prop) (w:World) (bw:Nat)
  (hS:Seen S w bw) (hbw:bw<w.heap.size) (hn:n≤1048576) (hp:PartsS w S A [p0,p1]) (hll:l.length≤1099511627776) (hl:ListS w S Al l) (ht:tameL l) (hw:Words w S 1 kindWords) (hh:Hold w bw 0 (.int .i64 n)) :
  Calls Tryz.prog 95 #[.pointer (some ⟨bw,0,none⟩),eV oCall a (.slice A 2 c) gAll y,.slice Al l.length cl] w (AskPost S bw (eachA gAll a (askV p1) l [] n) w):=by
 have HBad:=Hd (fun (W:World)=>bad_any oCall a (.slice A 2 c) gAll y hy rfl W)
 have HGood:=Hd (fun (x:V) (u:Value) (S':Nat→Prop) (W:World)=>good_any oCall a (.slice A 2 c) gAll y hy rfl x u S' W)
 obtain ⟨n0,n1,n2,n3,n4,n5,n6,n7,n8,n9,n10,rfl,h1⟩:=hy
 clear h1
 unfold eV at *
 obtain ⟨i0,hi0,hz0,hz1_,hz2⟩:=info_parts Tryz.infoAny
 have HB:Hid (Below w.heap.size w ((w.alloc (.cells #[.string oCall,.int .i64 a,.slice A 2 c,.string gAll,n0,n1,n2,n3,n4,n5,n6,n7,n8,n9,n10] 32)).alloc (.cells #[] 20))):=Hd (bnew.alloc (by simp) _)
 have HBX:Hid (Below w.heap.size w (w.alloc (.cells #[.string oCall,.int .i64 a,.slice A 2 c,.string gAll,n0,n1,n2,n3,n4,n5,n6,n7,n8,n9,n10] 32))):=Hd bnew
 have HA0:Hid (Aside bw w (w.alloc (.cells #[.string oCall,.int .i64 a,.slice A 2 c,.string gAll,n0,n1,n2,n3,n4,n5,n6,n7,n8,n9,n10] 32))):=Hd (Aside.of_below HBX.out)
 have HA00:Hid (Aside bw (w.alloc (.cells #[.string oCall,.int .i64 a,.slice A 2 c,.string gAll,n0,n1,n2,n3,n4,n5,n6,n7,n8,n9,n10] 32)) ((w.alloc (.cells #[.string oCall,.int .i64 a,.slice A 2 c,.string gAll,n0,n1,n2,n3,n4,n5,n6,n7,n8,n9,n10] 32)).alloc (.cells #[] 20))):=Hd (Aside.of_below bnew)
 have hh0:=hh.below HB.out hbw
 have hO0:OwnV (fun b=>S b∨w.heap.size+1≤b) ((w.alloc (.cells #[.string oCall,.int .i64 a,.slice A 2 c,.string gAll,n0,n1,n2,n3,n4,n5,n6,n7,n8,n9,n10] 32)).alloc (.cells #[] 20)) (w.heap.size+1) (.slice (some ⟨w.heap.size+1,0,none⟩) 0 0) []:=by
  have:=OwnV.empty (fun b=>S b∨w.heap.size+1≤b) (w.alloc (.cells #[.string oCall,.int .i64 a,.slice A 2 c,.string gAll,n0,n1,n2,n3,n4,n5,n6,n7,n8,n9,n10] 32)) (w.heap.size+1) (by simp)
  simpa using this
 have hFb:∀b,(S b∨w.heap.size+1≤b)→b≠bw:=fun b hb=>hb.elim (fun h=>(hS b h).2) (fun h=>by omega)
 obtain ⟨bp,offp,xs,eA,hSb,c0,hxs⟩:=hp.get (k:=1) (x:=p1) rfl
 subst eA
 rw[Nat.one_mul]at c0
 have HAsk:=Hd (fun (x:V) (vx:Value) (m:Nat) (W:World) (hm:m≤1048576) (hW:Aside bw (w.alloc (.cells #[.string oCall,.int .i64 a,.slice (some ⟨bp,offp,none⟩) 2 c,.string gAll,n0,n1,n2,n3,n4,n5,n6,n7,n8,n9,n10] 32)) W) (hhW:Hold W bw 0 (.int .i64 m)) (hx:RdS w S x vx) (hxt:tameV x)=>ih xs x vx m S W bw (hS.to (Nat.le_trans HBX.out.size hW.size)) (Nat.lt_of_lt_of_le hbw (Nat.le_trans HBX.out.size hW.size)) hm (hxs.aside hS (HA0.out.trans hW)) (hx.aside hS (HA0.out.trans hW)) hxt (hw.aside hS (HA0.out.trans hW)) hhW)
 clear ih hw hh hp
 have hcnt:=ask_count p1
 have htm:=ask_tame p1
 generalize askV p1=fa at *
 obtain ⟨op',a',l',nm',t'⟩:=p1
 obtain ⟨A',c',y',rfl,-,-,-,hty,-⟩:=hxs
 obtain ⟨m0,m1,m2,m3,m4,m5,m6,m7,m8,m9,m10,rfl,h1c⟩:=hty.elevenS
 unfold termOf at HAsk
 clear hty h1c
 go_enter Tryz.func95,Tryz.ntmps95
 go_wp2
 go_loopw [7,16] (fun s i wr=>∃(k m:Nat) (o:List V),i=.int .i64 k∧k≤l.length∧m≤1048576∧o.length≤k∧Hid (eachA gAll a fa l [] n=eachA gAll a fa (l.drop k) o m)∧Aside bw (w.alloc (.cells #[.string oCall,.int .i64 a,.slice (some ⟨bp,offp,none⟩) 2 c,.string gAll,n0,n1,n2,n3,n4,n5,n6,n7,n8,n9,n10] 32)) wr∧Hold wr bw 0 (.int .i64 m)∧OwnV (fun b=>S b∨w.heap.size+1≤b) wr (w.heap.size+1) s o) (fun _ i _=>l.length-(intOf i).toNat)
 case atStart=>exact ⟨0,n,[],rfl,by omega,hn,by simp,Hd rfl,HA00.out,hh0,hO0⟩
 case round =>
  clear hh0 hO0
  obtain ⟨k,m,o,rfl,hk,hm,hok,HT,hA,hH,hO⟩:=hrel
  obtain ⟨Ao,co,rfl⟩:=hO.form
  have hA1:=HA0.out.trans hA
  have hz:=hA1.size
  have hz1:w.heap.size+1≤wr.heap.size:=by have:=hA.size;simp at this;omega
  have hne:w.heap.size≠bw:=by omega
  have qe:=fun (o:Nat)=>hA.cell (p:=⟨w.heap.size,o,none⟩) (by simp) hne
  by_cases hlt:k<l.length
  ·obtain ⟨x,hx⟩:∃x,l[k]?=some x:=⟨_,List.getElem?_eq_getElem hlt⟩
   obtain ⟨b,off,vx,rfl,hSx,d0,hvx⟩:=hl.get hx
   have d1:=(hA1.cell (p:=⟨b,off+k,none⟩) (hS b hSx).1 (hS b hSx).2).trans d0
   have c1:=c0.keep (fun p hp=>hA1.cell (by rw[hp];exact (hS bp hSb).1) (by rw[hp];exact (hS bp hSb).2))
   have hxt:tameV x:=tameL_iff.1 ht x (List.mem_of_getElem? hx)
   have HC:=Hd (HAsk.out x vx m wr hm hA hH hvx hxt)
   have HDR:Hid (l.drop k=x :: l.drop (k+1)):=Hd (by rw[List.drop_eq_getElem_cons hlt];rw[List.getElem?_eq_getElem hlt]at hx;injection hx with hx;rw[hx])
   have HCnt:=Hd (hcnt x m hm)
   obtain ⟨q0,q1,q2,q3,q4,q5,q6,q7,q8,q9,q10,q11,q12,q13,q14⟩:=lie15 c1
   have ox:=hvx.one
   clear hl hx c0 c1 HAsk d0
   generalize hq:fa x m=q at *
   obtain ⟨ou,m2'⟩:=q
   cases ou with
   | gone ga gw =>
    have HF:Hid (eachA gAll a fa l [] n=(.gone ga gw,m2')):=Hd (by rw[HT.out,HDR.out,eachA_all,hq];rfl)
    clear hq
    go_wp2_with fail
    refine HC.out.mono ?_
    rintro e w1 ⟨hA2,hH2,rfl⟩
    exact ⟨rfl,AskPost.gone_ HF.out (hA1.trans hA2) hH2⟩
   | val u =>
    have hm2:m2'≤1048576:=HCnt.out u rfl
    by_cases h2:kindV u=2
    case neg =>
     have HF:Hid (eachA gAll a fa l [] n=(.gone a 172,m2')):=Hd (by rw[HT.out,HDR.out,eachA_all,hq];cases u <;> first|rfl|exact absurd rfl h2)
     clear hq
     go_wp2_with fail
     refine HC.out.mono ?_
     rintro e w1 ⟨hA2,hH2,uv,rfl,huv⟩
     have hA3:=hA.trans hA2
     have qe3:=fun (o:Nat)=>hA3.cell (p:=⟨w.heap.size,o,none⟩) (by simp) hne
     have k0:=fun (W:World)=>not_bool huv 20 W h2
     go_wp2_with fail
     refine (HBad.out _).mono ?_
     rintro e w9 ⟨rfl,hb9⟩
     exact ⟨rfl,AskPost.gone_ HF.out (HA0.out.trans (hA3.trans (Aside.of_below hb9))) (hH2.below hb9 (by have:=hA3.size;simp at this;omega))⟩
    case pos =>
    obtain ⟨ub,rfl⟩:=kind_is_bool h2
    clear h2
    cases ub
    ·have HF:Hid (eachA gAll a fa l [] n=(.val (.bool false),m2')):=Hd (by rw[HT.out,HDR.out,eachA_all,hq];rfl)
     clear hq
     go_wp2_with fail
     refine HC.out.mono ?_
     rintro e w1 ⟨hA2,hH2,uv,rfl,huv⟩
     have hA3:=hA.trans hA2
     have qe3:=fun (o:Nat)=>hA3.cell (p:=⟨w.heap.size,o,none⟩) (by simp) hne
     obtain rfl:=huv
     go_wp2
     go_ret
     exact AskPost.val_ HF.out (HA0.out.trans hA3) hH2 rfl
    ·have HT2:Hid (eachA gAll a fa l [] n=eachA gAll a fa (l.drop (k+1)) o m2'):=Hd (by rw[HT.out,HDR.out,eachA_all,hq];rfl)
     clear hq
     go_wp2_with fail
     refine HC.out.mono ?_
     rintro e w1 ⟨hA2,hH2,uv,rfl,huv⟩
     have hA3:=hA.trans hA2
     have qe3:=fun (o:Nat)=>hA3.cell (p:=⟨w.heap.size,o,none⟩) (by simp) hne
     obtain rfl:=huv
     have hO2:=hO.aside hFb (by omega) hA2
     go_wp2
     refine ⟨⟨k+1,m2',o,rfl,hlt,hm2,by omega,HT2,hA3,hH2,hO2⟩,?_⟩
     simp[intOf];omega
  ·obtain rfl:k=l.length:=by omega
   have HF:Hid (eachA gAll a fa l [] n=(.val (.bool true),m)):=Hd (by rw[HT.out,List.drop_length,eachA];rfl)
   go_wp2
   go_ret
   exact AskPost.val_ HF.out hA1 hH rfl
theorem each_pick (a:Int) (p0 p1:Ex) (A:Option Addr) (c:Nat) (y:List Value) (hy:Eleven y) (ih:AskC p1) (l:List V) (Al:Option Addr) (cl n:Nat) (S:Nat→Prop) (w:World) (bw:Nat)
  (hS:Seen S w bw) (hbw:bw<w.heap.size) (hn:n≤1048576) (hp:PartsS w S A [p0,p1]) (hll:l.length≤1099511627776) (hl:ListS w S Al l) (ht:tameL l) (hw:Words w S 1 kindWords) (hh:Hold w bw 0 (.int .i64 n)) :
  Calls Tryz.prog 95 #[.pointer (some ⟨bw,0,none⟩),eV oCall a (.slice A 2 c) gPick y,.slice Al l.length cl] w (AskPost S bw (eachA gPick a (askV p1) l [] n) w):=by
 have HBad:=Hd (fun (W:World)=>bad_any oCall a (.slice A 2 c) gPick y hy rfl W)
 have HGood:=Hd (fun (x:V) (u:Value) (S':Nat→Prop) (W:World)=>good_any oCall a (.slice A 2 c) gPick y hy rfl x u S' W)
 obtain ⟨n0,n1,n2,n3,n4,n5,n6,n7,n8,n9,n10,rfl,h1⟩:=hy
 clear h1
 unfold eV at *
 obtain ⟨i0,hi0,hz0,hz1_,hz2⟩:=info_parts Tryz.infoAny
 have HB:Hid (Below w.heap.size w ((w.alloc (.cells #[.string oCall,.int .i64 a,.slice A 2 c,.string gPick,n0,n1,n2,n3,n4,n5,n6,n7,n8,n9,n10] 32)).alloc (.cells #[] 20))):=Hd (bnew.alloc (by simp) _)
 have HBX:Hid (Below w.heap.size w (w.alloc (.cells #[.string oCall,.int .i64 a,.slice A 2 c,.string gPick,n0,n1,n2,n3,n4,n5,n6,n7,n8,n9,n10] 32))):=Hd bnew
 have HA0:Hid (Aside bw w (w.alloc (.cells #[.string oCall,.int .i64 a,.slice A 2 c,.string gPick,n0,n1,n2,n3,n4,n5,n6,n7,n8,n9,n10] 32))):=Hd (Aside.of_below HBX.out)
 have HA00:Hid (Aside bw (w.alloc (.cells #[.string oCall,.int .i64 a,.slice A 2 c,.string gPick,n0,n1,n2,n3,n4,n5,n6,n7,n8,n9,n10] 32)) ((w.alloc (.cells #[.string oCall,.int .i64 a,.slice A 2 c,.string gPick,n0,n1,n2,n3,n4,n5,n6,n7,n8,n9,n10] 32)).alloc (.cells #[] 20))):=Hd (Aside.of_below bnew)
 have hh0:=hh.below HB.out hbw
 have hO0:OwnV (fun b=>S b∨w.heap.size+1≤b) ((w.alloc (.cells #[.string oCall,.int .i64 a,.slice A 2 c,.string gPick,n0,n1,n2,n3,n4,n5,n6,n7,n8,n9,n10] 32)).alloc (.cells #[] 20)) (w.heap.size+1) (.slice (some ⟨w.heap.size+1,0,none⟩) 0 0) []:=by
  have:=OwnV.empty (fun b=>S b∨w.heap.size+1≤b) (w.alloc (.cells #[.string oCall,.int .i64 a,.slice A 2 c,.string gPick,n0,n1,n2,n3,n4,n5,n6,n7,n8,n9,n10] 32)) (w.heap.size+1) (by simp)
  simpa using this
 have hFb:∀b,(S b∨w.heap.size+1≤b)→b≠bw:=fun b hb=>hb.elim (fun h=>(hS b h).2) (fun h=>by omega)
 obtain ⟨bp,offp,xs,eA,hSb,c0,hxs⟩:=hp.get (k:=1) (x:=p1) rfl
 subst eA
 rw[Nat.one_mul]at c0
 have HAsk:=Hd (fun (x:V) (vx:Value) (m:Nat) (W:World) (hm:m≤1048576) (hW:Aside bw (w.alloc (.cells #[.string oCall,.int .i64 a,.slice (some ⟨bp,offp,none⟩) 2 c,.string gPick,n0,n1,n2,n3,n4,n5,n6,n7,n8,n9,n10] 32)) W) (hhW:Hold W bw 0 (.int .i64 m)) (hx:RdS w S x vx) (hxt:tameV x)=>ih xs x vx m S W bw (hS.to (Nat.le_trans HBX.out.size hW.size)) (Nat.lt_of_lt_of_le hbw (Nat.le_trans HBX.out.size hW.size)) hm (hxs.aside hS (HA0.out.trans hW)) (hx.aside hS (HA0.out.trans hW)) hxt (hw.aside hS (HA0.out.trans hW)) hhW)
 clear ih hw hh hp
 have hcnt:=ask_count p1
 have htm:=ask_tame p1
 generalize askV p1=fa at *
 obtain ⟨op',a',l',nm',t'⟩:=p1
 obtain ⟨A',c',y',rfl,-,-,-,hty,-⟩:=hxs
 obtain ⟨m0,m1,m2,m3,m4,m5,m6,m7,m8,m9,m10,rfl,h1c⟩:=hty.elevenS
 unfold termOf at HAsk
 clear hty h1c
 go_enter Tryz.func95,Tryz.ntmps95
 go_wp2
 go_loopw [7,16] (fun s i wr=>∃(k m:Nat) (o:List V),i=.int .i64 k∧k≤l.length∧m≤1048576∧o.length≤k∧Hid (eachA gPick a fa l [] n=eachA gPick a fa (l.drop k) o m)∧Aside bw (w.alloc (.cells #[.string oCall,.int .i64 a,.slice (some ⟨bp,offp,none⟩) 2 c,.string gPick,n0,n1,n2,n3,n4,n5,n6,n7,n8,n9,n10] 32)) wr∧Hold wr bw 0 (.int .i64 m)∧OwnV (fun b=>S b∨w.heap.size+1≤b) wr (w.heap.size+1) s o) (fun _ i _=>l.length-(intOf i).toNat)
 case atStart=>exact ⟨0,n,[],rfl,by omega,hn,by simp,Hd rfl,HA00.out,hh0,hO0⟩
 case round =>
  clear hh0 hO0
  obtain ⟨k,m,o,rfl,hk,hm,hok,HT,hA,hH,hO⟩:=hrel
  obtain ⟨Ao,co,rfl⟩:=hO.form
  have hA1:=HA0.out.trans hA
  have hz:=hA1.size
  have hz1:w.heap.size+1≤wr.heap.size:=by have:=hA.size;simp at this;omega
  have hne:w.heap.size≠bw:=by omega
  have qe:=fun (o:Nat)=>hA.cell (p:=⟨w.heap.size,o,none⟩) (by simp) hne
  by_cases hlt:k<l.length
  ·obtain ⟨x,hx⟩:∃x,l[k]?=some x:=⟨_,List.getElem?_eq_getElem hlt⟩
   obtain ⟨b,off,vx,rfl,hSx,d0,hvx⟩:=hl.get hx
   have d1:=(hA1.cell (p:=⟨b,off+k,none⟩) (hS b hSx).1 (hS b hSx).2).trans d0
   have c1:=c0.keep (fun p hp=>hA1.cell (by rw[hp];exact (hS bp hSb).1) (by rw[hp];exact (hS bp hSb).2))
   have hxt:tameV x:=tameL_iff.1 ht x (List.mem_of_getElem? hx)
   have HC:=Hd (HAsk.out x vx m wr hm hA hH hvx hxt)
   have HDR:Hid (l.drop k=x :: l.drop (k+1)):=Hd (by rw[List.drop_eq_getElem_cons hlt];rw[List.getElem?_eq_getElem hlt]at hx;injection hx with hx;rw[hx])
   have HCnt:=Hd (hcnt x m hm)
   obtain ⟨q0,q1,q2,q3,q4,q5,q6,q7,q8,q9,q10,q11,q12,q13,q14⟩:=lie15 c1
   have ox:=hvx.one
   clear hl hx c0 c1 HAsk d0
   generalize hq:fa x m=q at *
   obtain ⟨ou,m2'⟩:=q
   cases ou with
   | gone ga gw =>
    have HF:Hid (eachA gPick a fa l [] n=(.gone ga gw,m2')):=Hd (by rw[HT.out,HDR.out,eachA_pick,hq];rfl)
    clear hq
    go_wp2_with fail
    refine HC.out.mono ?_
    rintro e w1 ⟨hA2,hH2,rfl⟩
    exact ⟨rfl,AskPost.gone_ HF.out (hA1.trans hA2) hH2⟩
   | val u =>
    have hm2:m2'≤1048576:=HCnt.out u rfl
    by_cases h2:kindV u=2
    case neg =>
     have HF:Hid (eachA gPick a fa l [] n=(.gone a 172,m2')):=Hd (by rw[HT.out,HDR.out,eachA_pick,hq];cases u <;> first|rfl|exact absurd rfl h2)
     clear hq
     go_wp2_with fail
     refine HC.out.mono ?_
     rintro e w1 ⟨hA2,hH2,uv,rfl,huv⟩
     have hA3:=hA.trans hA2
     have qe3:=fun (o:Nat)=>hA3.cell (p:=⟨w.heap.size,o,none⟩) (by simp) hne
     have k0:=fun (W:World)=>not_bool huv 20 W h2
     go_wp2_with fail
     refine (HBad.out _).mono ?_
     rintro e w9 ⟨rfl,hb9⟩
     exact ⟨rfl,AskPost.gone_ HF.out (HA0.out.trans (hA3.trans (Aside.of_below hb9))) (hH2.below hb9 (by have:=hA3.size;simp at this;omega))⟩
    case pos =>
    obtain ⟨ub,rfl⟩:=kind_is_bool h2
    clear h2
    cases ub
    ·have HT2:Hid (eachA gPick a fa l [] n=eachA gPick a fa (l.drop (k+1)) o m2'):=Hd (by rw[HT.out,HDR.out,eachA_pick,hq];rfl)
     clear hq
     go_wp2_with fail
     refine HC.out.mono ?_
     rintro e w1 ⟨hA2,hH2,uv,rfl,huv⟩
     have hA3:=hA.trans hA2
     have qe3:=fun (o:Nat)=>hA3.cell (p:=⟨w.heap.size,o,none⟩) (by simp) hne
     obtain rfl:=huv
     have hO2:=hO.aside hFb (by omega) hA2
     go_wp2
     refine ⟨⟨k+1,m2',o,rfl,hlt,hm2,by omega,HT2,hA3,hH2,hO2⟩,?_⟩
     simp[intOf];omega
    ·have HT2:Hid (eachA gPick a fa l [] n=eachA gPick a fa (l.drop (k+1)) (o++[x]) m2'):=Hd (by rw[HT.out,HDR.out,eachA_pick,hq];rfl)
     clear hq
     go_wp2_with fail
     refine HC.out.mono ?_
     rintro e w1 ⟨hA2,hH2,uv,rfl,huv⟩
     have hA3:=hA.trans hA2
     have qe3:=fun (o:Nat)=>hA3.cell (p:=⟨w.heap.size,o,none⟩) (by simp) hne
     obtain rfl:=huv
     have hO2:=hO.aside hFb (by omega) hA2
     have hba:Below w1.heap.size w1 (w1.alloc (.cells #[vx] 20)):=bnew
     have hO3:=hO2.below hba
     obtain ⟨zs0,hown0,_⟩:=hO
     have hz4:wr.heap.size≤w1.heap.size:=hA2.size
     have hu2:RdS (w1.alloc (.cells #[vx] 20)) (Fresh (fun b=>S b∨w.heap.size+1≤b) (w1.alloc (.cells #[vx] 20)) (.slice Ao o.length co)) x vx:=RdS.more (fun b hb=>⟨.inl hb,by have:=(hS b hb).1;simp;omega,fun e=>by have h3:=hown0.lt b e;have:=(hS b hb).1;omega⟩) _ _ (RdS.keep (fun p hp=>hba.cell (by have:=(hS _ hp).1;omega)) _ _ (hvx.aside hS (HA0.out.trans hA3)))
     obtain ⟨zs,hown,hzs⟩:=hO3
     have hou:=hu2.one
     have hA4:=hA3.trans (Aside.of_below hba)
     have hH4:=hH2.below hba (by omega)
     have hz5:w.heap.size+1≤((w1.alloc (.cells #[vx] 20))).heap.size:=by simp;omega
     rcases hu2.face with rfl|⟨ty,yy,rfl⟩
     all_goals
      go_wp2_with (at_builtin;go_must (refine wpList_append_lies _ rfl (.tmp 68) (.tmp 70) 73 rfl (w.heap.size+1) 20 i0 _ 1 16 Tryz.underlying73 hi0 hz0 hz1_ hz2 rfl (by omega) (.slice Ao o.length co) o.length zs rfl hown ⟨w1.heap.size,0,none⟩ 1 1 [_] rfl rfl (news_at rfl) (one_of1 hou) (by omega) (by simp only[maxLen];omega) (by omega) hz5 _ rfl ?_);intro g cap w2 hown2 hg2 hat hlt2)
      have hO5:=OwnV.snoc rfl hown hzs hu2 hown2 hg2 hat
      have hrow:∀k,Value.ownBlock (.slice Ao o.length co)=some k→w.heap.size+1≤k:=fun k hk=>(hown.lt k hk).1
      refine ⟨⟨k+1,m2',o++[x],rfl,hlt,hm2,by simp;omega,HT2,hA4.grown2 hg2 hrow (by simp),hH4.grown hg2 (by simp;omega) (fun e=>by have:=hrow bw e;omega),hO5⟩,?_⟩
      simp[intOf];omega
  ·obtain rfl:k=l.length:=by omega
   have HF:Hid (eachA gPick a fa l [] n=(goodV a (.list o),m)):=Hd (by rw[HT.out,List.drop_length,eachA];rfl)
   have hR:=hO.read (by omega)
   have HG:=Hd (HGood.out (.list o) (.iface 73 (.slice Ao o.length co)) _ wr (fun b hb=>hb.2) hR)
   clear hO hR
   go_wp2_with fail
   refine HG.out.mono ?_
   rintro e w9 ⟨hb9,hr9⟩
   have hA9:=hA1.trans (Aside.of_below hb9)
   have hH9:=hH.below hb9 (by omega)
   cases hg:goodV a (.list o)with
   | val t =>
    rw[hg]at hr9
    obtain ⟨v9,rfl,hv9⟩:=hr9
    go_wp2
    go_ret
    exact AskPost.val_ (by rw[HF.out,hg]) hA9 hH9 (RdS.more (fun b hb=>hb.elim (fun h=>h.1.elim (fun h'=>h'.elim .inl (fun h'=>.inr ⟨by omega,Nat.lt_of_lt_of_le h.2 hb9.size⟩)) (fun h'=>.inr ⟨by omega,Nat.lt_of_lt_of_le h.2 hb9.size⟩)) (fun h=>.inr ⟨Nat.le_trans hz h.1,h.2⟩)) _ _ hv9)
   | gone b why =>
    rw[hg]at hr9
    obtain rfl:=hr9
    exact ⟨rfl,AskPost.gone_ (by rw[HF.out,hg]) hA9 hH9⟩
end Go.Proofs.YtbemeapjeipjlaaGreatDoor
