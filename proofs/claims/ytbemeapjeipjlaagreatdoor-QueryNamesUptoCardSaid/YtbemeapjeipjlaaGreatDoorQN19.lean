/- Walks: query.walk.call. -/
import Derived.Test.YtbemeapjeipjlaaGreatDoorQN16
import Derived.Test.YtbemeapjeipjlaaGreatDoorQN18
set_option linter.unusedVariables false
set_option linter.unusedSimpArgs false
namespace Go.Proofs.YtbemeapjeipjlaaGreatDoor
open Go Go.RowKit
set_option maxRecDepth 100000
set_option maxHeartbeats 8000000
attribute [local go_sem] ta_no_bool ta_yes_bool ta_nil_bool ta_no_int64 ta_yes_int64 ta_nil_int64 ta_no_flt ta_yes_flt ta_nil_flt ta_no_str ta_yes_str ta_nil_str ta_no_byt ta_yes_byt ta_nil_byt ta_no_ref ta_yes_ref ta_nil_ref ta_no_lst ta_yes_lst ta_nil_lst ta_no_dct ta_yes_dct ta_nil_dct ta_no_rec ta_yes_rec ta_nil_rec
theorem AskPost.chain {S S1:Nat→Prop} {bw:Nat} {r:Out×Nat} {w w1:World} {e:Ending} {w':World} (h:AskPost S1 bw r w1 e w') (hA:Aside bw w w1) (hS1:∀b,S1 b→S b∨New w w1 b):AskPost S bw r w e w':=by
 obtain ⟨h1,h2,h3⟩:=h
 refine ⟨hA.trans h1,h2,?_⟩
 cases hr:r.1 with
 | val x =>
  rw[hr]at h3
  obtain ⟨v,e1,hv⟩:=h3
  exact ⟨v,e1,RdS.more (fun b h=>h.elim (fun h=>(hS1 b h).imp id (fun h=>⟨h.1,Nat.lt_of_lt_of_le h.2 h1.size⟩)) (fun h=>.inr ⟨Nat.le_trans hA.size h.1,h.2⟩)) _ _ hv⟩
 | gone a why=>rw[hr]at h3;exact h3
theorem AskPost.eq_ {S:Nat→Prop} {bw:Nat} {r r':Out×Nat} {w:World} {e:Ending} {w':World} (h:r'=r) (hP:AskPost S bw r w e w'):AskPost S bw r' w e w':=by rw[h];exact hP
theorem AskPost.out {S S1:Nat→Prop} {bw n:Nat} {o:Out} {w w1:World} {e:Ending} {w':World} (h:OutPost S1 o w1 e w') (hA:Aside bw w w1) (hS1:∀b,S1 b→S b∨New w w1 b) (hl:bw<w1.heap.size) (hh:Hold w1 bw 0 (.int .i64 n)):AskPost S bw (o,n) w e w':=by
 refine AskPost.chain (S1:=S1) ?_ hA hS1
 obtain ⟨hb,h3⟩:=h
 exact ⟨Aside.of_below hb,hh.below hb hl,h3⟩
theorem tame_top {x:V} (h:tameV x):topSmall x:=by
 cases x <;> first|exact trivial|exact h|exact h.1
theorem tame_le {x:V} (h:tameV x):kindV x≤10:=by cases x <;> first|exact h.elim|(simp[kindV])
theorem PartsS.asideS {w w':World} {S:Nat→Prop} {bw:Nat} {A:Option Addr} {l:List Ex} (h:PartsS w S A l) (hS:Seen S w bw) (ha:Aside bw w w'):PartsS w' S A l:=by
 refine h.imp id ?_
 rintro ⟨b,off,hA,hb,hr⟩
 refine ⟨b,off,hA,hb,RdEL.iff.2 fun i x hi=>?_⟩
 obtain ⟨v,hv,hd⟩:=RdEL.iff.1 hr i x hi
 exact ⟨v,hv.keep (fun p hp=>ha.cell (by rw[hp];exact (hS b hb).1) (by rw[hp];exact (hS b hb).2)),hd.aside hS ha⟩
theorem PartsS.moreS {w:World} {S S':Nat→Prop} {A:Option Addr} {l:List Ex} (h:PartsS w S A l) (hS:∀b,S b→S' b):PartsS w S' A l:=by
 refine h.imp id ?_
 rintro ⟨b,off,hA,hb,hr⟩
 refine ⟨b,off,hA,hS b hb,RdEL.iff.2 fun i x hi=>?_⟩
 obtain ⟨v,hv,hd⟩:=RdEL.iff.1 hr i x hi
 exact ⟨v,hv,RdES.more hS _ _ hd⟩
theorem call_len (a:Int) (p0:Ex) (A:Option Addr) (c:Nat) (y:List Value) (hy:Eleven y) (ih0:AskC p0) (v:V) (vv:Value) (n:Nat) (S:Nat→Prop) (w:World) (bw:Nat)
  (hS:Seen S w bw) (hbw:bw<w.heap.size) (hn:n≤1048576) (hp:PartsS w S A [p0]) (hv:RdS w S v vv) (ht:tameV v) (hw:Words w S 1 kindWords) (hh:Hold w bw 0 (.int .i64 n)) :
  Calls Tryz.prog 66 #[.pointer (some ⟨bw,0,none⟩),eV oCall a (.slice A 1 c) gLen y,vv] w (AskPost S bw (callA gLen a (askL [p0]) v n) w):=by
 have HBad:=Hd (fun (W:World)=>bad_any oCall a (.slice A 1 c) gLen y hy rfl W)
 have HGood:=Hd (fun (x:V) (u:Value) (S':Nat→Prop) (W:World)=>good_any oCall a (.slice A 1 c) gLen y hy rfl x u S' W)
 have hy':=hy
 obtain ⟨n0,n1,n2,n3,n4,n5,n6,n7,n8,n9,n10,rfl,h1⟩:=hy
 clear h1
 unfold eV at *
 have HB:Hid (Below w.heap.size w (w.alloc (.cells #[.string oCall,.int .i64 a,.slice A 1 c,.string gLen,n0,n1,n2,n3,n4,n5,n6,n7,n8,n9,n10] 32))):=Hd bnew
 have HA0:Hid (Aside bw w (w.alloc (.cells #[.string oCall,.int .i64 a,.slice A 1 c,.string gLen,n0,n1,n2,n3,n4,n5,n6,n7,n8,n9,n10] 32))):=Hd (Aside.of_below HB.out)
 obtain ⟨bp,offp,xs,eA,hSb,c0,hxs⟩:=hp.get (k:=0) (x:=p0) rfl
 subst eA
 rw[Nat.zero_mul,Nat.add_zero]at c0
 have c1:=c0.keep (fun p hp=>HB.out.cell (by rw[hp];exact (hS bp hSb).1))
 have HC:=Hd (ih0 xs v vv n S _ bw (hS.to HB.out.size) (Nat.lt_of_lt_of_le hbw HB.out.size) hn (hxs.aside hS HA0.out) (hv.aside hS HA0.out) ht (hw.aside hS HA0.out) (hh.below HB.out hbw))
 have HCnt:=Hd (ask_count p0 v n hn)
 have HTm:=Hd (ask_tame p0 v n ht)
 have HU:Hid (callA gLen a (askL [p0]) v n=bindA (askV p0 v n) fun x m=>(lengthV a x,m)):=Hd (by unfold callA;refine congrArg (bindA _) ?_;funext x m;rfl)
 have hne:w.heap.size≠bw:=by omega
 clear ih0 hp hh c0
 generalize askV p0 v n=q at *
 obtain ⟨op',a',l',nm',t'⟩:=p0
 obtain ⟨A',c',y',rfl,-,-,-,hty,-⟩:=hxs
 obtain ⟨m0,m1,m2,m3,m4,m5,m6,m7,m8,m9,m10,rfl,h1c⟩:=hty.elevenS
 unfold termOf at HC
 obtain ⟨q0,q1,q2,q3,q4,q5,q6,q7,q8,q9,q10,q11,q12,q13,q14⟩:=lie15 c1
 clear hty h1c c1
 obtain ⟨ou,m'⟩:=q
 go_enter Tryz.func66,Tryz.ntmps66
 cases ou with
 | gone ga gw =>
  go_wp2_with fail
  refine HC.out.mono ?_
  rintro e w1 ⟨hA2,hH2,rfl⟩
  exact ⟨rfl,AskPost.gone_ (by rw[HU.out];rfl) (HA0.out.trans hA2) hH2⟩
 | val u =>
  have hm2:m'≤1048576:=HCnt.out u rfl
  have hut:tameV u:=HTm.out u rfl
  have HU2:=Hd (HU.out.trans rfl)
  clear HCnt HTm HU
  go_wp2_with fail
  refine HC.out.mono ?_
  rintro e w1 ⟨hA2,hH2,uv,rfl,huv⟩
  have hA3:=HA0.out.trans hA2
  have hz3:=hA3.size
  have hz4:w.heap.size+1≤w1.heap.size:=by have:=hA2.size;simp at this;omega
  have hS1:Seen (fun b=>S b∨New (w.alloc (.cells #[.string oCall,.int .i64 a,.slice (some ⟨bp,offp,none⟩) 1 c,.string gLen,n0,n1,n2,n3,n4,n5,n6,n7,n8,n9,n10] 32)) w1 b) w1 bw:=(hS.to HB.out.size).more (Nat.lt_of_lt_of_le hbw HB.out.size) hA2.size
  have hSN:∀b,(S b∨New (w.alloc (.cells #[.string oCall,.int .i64 a,.slice (some ⟨bp,offp,none⟩) 1 c,.string gLen,n0,n1,n2,n3,n4,n5,n6,n7,n8,n9,n10] 32)) w1 b)→S b∨New w w1 b:=fun b h=>h.imp id (fun h=>⟨Nat.le_trans HB.out.size h.1,h.2⟩)
  have hbw1:bw<w1.heap.size:=by omega
  have qe:=fun (o:Nat)=>hA2.cell (p:=⟨w.heap.size,o,none⟩) (by simp) hne
  have HTu:=Hd (turns_gLen w1)
  go_wp2_with fail
  refine HTu.out.mono ?_
  rintro e w2 ⟨rfl,rfl⟩
  have HL:=Hd (length_any oCall a (.slice (some ⟨bp,offp,none⟩) 1 c) gLen [n0,n1,n2,n3,n4,n5,n6,n7,n8,n9,n10] hy' rfl u uv _ w1 (fun b h=>(hS1 b h).1) huv (tame_kind hut))
  unfold eV at HL
  go_wp2_with fail
  refine HL.out.mono ?_
  rintro e w9 hr9
  have hP:AskPost S bw (lengthV a u,m') w e w9:=AskPost.out hr9 hA3 hSN hbw1 hH2
  replace hP:=AskPost.eq_ HU2.out hP
  cases hg:lengthV a u with
  | val t =>
   rw[hg]at hr9
   obtain ⟨hb9,v9,rfl,hv9⟩:=hr9
   go_wp2
   go_ret
   exact hP
  | gone gb gw =>
   rw[hg]at hr9
   obtain ⟨hb9,rfl⟩:=hr9
   exact ⟨rfl,hP⟩
theorem call_kind (a:Int) (p0:Ex) (A:Option Addr) (c:Nat) (y:List Value) (hy:Eleven y) (ih0:AskC p0) (v:V) (vv:Value) (n:Nat) (S:Nat→Prop) (w:World) (bw:Nat)
  (hS:Seen S w bw) (hbw:bw<w.heap.size) (hn:n≤1048576) (hp:PartsS w S A [p0]) (hv:RdS w S v vv) (ht:tameV v) (hw:Words w S 1 kindWords) (hh:Hold w bw 0 (.int .i64 n)) :
  Calls Tryz.prog 66 #[.pointer (some ⟨bw,0,none⟩),eV oCall a (.slice A 1 c) gKind y,vv] w (AskPost S bw (callA gKind a (askL [p0]) v n) w):=by
 have HBad:=Hd (fun (W:World)=>bad_any oCall a (.slice A 1 c) gKind y hy rfl W)
 have HGood:=Hd (fun (x:V) (u:Value) (S':Nat→Prop) (W:World)=>good_any oCall a (.slice A 1 c) gKind y hy rfl x u S' W)
 obtain ⟨n0,n1,n2,n3,n4,n5,n6,n7,n8,n9,n10,rfl,h1⟩:=hy
 clear h1
 unfold eV at *
 have HB:Hid (Below w.heap.size w (w.alloc (.cells #[.string oCall,.int .i64 a,.slice A 1 c,.string gKind,n0,n1,n2,n3,n4,n5,n6,n7,n8,n9,n10] 32))):=Hd bnew
 have HA0:Hid (Aside bw w (w.alloc (.cells #[.string oCall,.int .i64 a,.slice A 1 c,.string gKind,n0,n1,n2,n3,n4,n5,n6,n7,n8,n9,n10] 32))):=Hd (Aside.of_below HB.out)
 obtain ⟨bp,offp,xs,eA,hSb,c0,hxs⟩:=hp.get (k:=0) (x:=p0) rfl
 subst eA
 rw[Nat.zero_mul,Nat.add_zero]at c0
 have c1:=c0.keep (fun p hp=>HB.out.cell (by rw[hp];exact (hS bp hSb).1))
 have HC:=Hd (ih0 xs v vv n S _ bw (hS.to HB.out.size) (Nat.lt_of_lt_of_le hbw HB.out.size) hn (hxs.aside hS HA0.out) (hv.aside hS HA0.out) ht (hw.aside hS HA0.out) (hh.below HB.out hbw))
 have HCnt:=Hd (ask_count p0 v n hn)
 have HTm:=Hd (ask_tame p0 v n ht)
 have HU:Hid (callA gKind a (askL [p0]) v n=bindA (askV p0 v n) fun x m=>(.val (.text (kindWords.getD (kindV x) ⟨#[]⟩)),m)):=Hd (by unfold callA;refine congrArg (bindA _) ?_;funext x m;rfl)
 have hne:w.heap.size≠bw:=by omega
 have HW1:=Hd (fun (w1:World) (h:Aside bw w w1)=>hw.aside hS h)
 clear ih0 hp hh c0
 generalize askV p0 v n=q at *
 obtain ⟨op',a',l',nm',t'⟩:=p0
 obtain ⟨A',c',y',rfl,-,-,-,hty,-⟩:=hxs
 obtain ⟨m0,m1,m2,m3,m4,m5,m6,m7,m8,m9,m10,rfl,h1c⟩:=hty.elevenS
 unfold termOf at HC
 obtain ⟨q0,q1,q2,q3,q4,q5,q6,q7,q8,q9,q10,q11,q12,q13,q14⟩:=lie15 c1
 clear hty h1c c1
 obtain ⟨ou,m'⟩:=q
 go_enter Tryz.func66,Tryz.ntmps66
 cases ou with
 | gone ga gw =>
  go_wp2_with fail
  refine HC.out.mono ?_
  rintro e w1 ⟨hA2,hH2,rfl⟩
  exact ⟨rfl,AskPost.gone_ (by rw[HU.out];rfl) (HA0.out.trans hA2) hH2⟩
 | val u =>
  have hm2:m'≤1048576:=HCnt.out u rfl
  have hut:tameV u:=HTm.out u rfl
  have HU2:=Hd (HU.out.trans rfl)
  clear HCnt HTm HU
  go_wp2_with fail
  refine HC.out.mono ?_
  rintro e w1 ⟨hA2,hH2,uv,rfl,huv⟩
  have hA3:=HA0.out.trans hA2
  have hz3:=hA3.size
  have hz4:w.heap.size+1≤w1.heap.size:=by have:=hA2.size;simp at this;omega
  have hS1:Seen (fun b=>S b∨New (w.alloc (.cells #[.string oCall,.int .i64 a,.slice (some ⟨bp,offp,none⟩) 1 c,.string gKind,n0,n1,n2,n3,n4,n5,n6,n7,n8,n9,n10] 32)) w1 b) w1 bw:=(hS.to HB.out.size).more (Nat.lt_of_lt_of_le hbw HB.out.size) hA2.size
  have hSN:∀b,(S b∨New (w.alloc (.cells #[.string oCall,.int .i64 a,.slice (some ⟨bp,offp,none⟩) 1 c,.string gKind,n0,n1,n2,n3,n4,n5,n6,n7,n8,n9,n10] 32)) w1 b)→S b∨New w w1 b:=fun b h=>h.imp id (fun h=>⟨Nat.le_trans HB.out.size h.1,h.2⟩)
  have hbw1:bw<w1.heap.size:=by omega
  have qe:=fun (o:Nat)=>hA2.cell (p:=⟨w.heap.size,o,none⟩) (by simp) hne
  have HTu:=Hd (turns_gKind w1)
  go_wp2_with fail
  refine HTu.out.mono ?_
  rintro e w2 ⟨rfl,rfl⟩
  have HK:=Hd (HU2.out.trans (rfl:_=(Out.val (.text (kindWords.getD (kindV u) ⟨#[]⟩)),m')))
  clear HU2
  obtain ⟨hg1,bk,ok,ck,hSk,g0,gs⟩:=(HW1.out w1 hA3).more (S':=fun b=>S b∨New (w.alloc (.cells #[.string oCall,.int .i64 a,.slice (some ⟨bp,offp,none⟩) 1 c,.string gKind,n0,n1,n2,n3,n4,n5,n6,n7,n8,n9,n10] 32)) w1 b) (fun b h=>.inl h)
  have hku:=tame_le hut
  have gk:=gs (kindV u) (kindWords.getD (kindV u) ⟨#[]⟩) (by rw[List.getD_eq_getElem?_getD,List.getElem?_eq_getElem (by show kindV u<11;omega)];rfl)
  have HKd:=Hd (fun (W:World) (hW:Below w1.heap.size w1 W)=>kind_out u uv W.heap.size W (huv.toR (fun b h=>(hS1 b h).1) hW))
  have HTx:Hid (∀(W:World) (S':Nat→Prop),RdS W S' (.text (kindWords.getD (kindV u) ⟨#[]⟩)) (.iface 9 (.string (kindWords.getD (kindV u) ⟨#[]⟩)))):=Hd (fun W S'=>⟨rfl,Nat.le_trans (kindWords_tame (kindV u)) (by decide)⟩)
  have hlen:kindWords.length=11:=rfl
  rw[hlen]at g0
  have hk11:((kindV u:Int)<11):=by omega
  generalize kindWords.getD (kindV u) ⟨#[]⟩=kw at *
  generalize kindV u=ku at *
  clear gs huv hlen
  have hlg:(1:Nat)<w1.heap.size:=by have:=(hS1 1 hg1).1;omega
  have hlk:bk<w1.heap.size:=(hS1 bk hSk).1
  go_wp2
  refine wp_region_below_lit (by kernel_rfl) (by kernel_rfl) ?_
  repeat (refine WpC.step (fun K hK=>?_);go_simp;first|(refine hK _ ?_;clear hK K)|(apply Exists.intro;refine ⟨fun W hW=>?_,hK _ ?_⟩;(first|(intros;rfl)|(refine ⟨rfl,?_⟩;rfl)|((obtain ⟨hc,hf⟩:=bcellB hW;go_simp;rfl))|((go_at_call 62;refine (HKd.out _ hW).mono ?_;rintro e w3 ⟨rfl,rfl⟩;exact ⟨rfl,hW⟩)));clear hK K))
  refine WpC.nil ?_
  intro wq hwq
  go_wp2
  go_ret
  exact AskPost.val_ HK.out (hA3.trans (Aside.of_below hwq)) (hH2.below hwq hbw1) (HTx.out _ _)
def signB (x:Nat):Bool:=decide (wrap64 x<0)
def absF (x:Nat):Nat:=(bits .andNot .u64 x 9223372036854775808).toNat
theorem neS {op:ByteArray} (l:List UInt8) (h:op≠⟨l.toArray⟩):(op.toList==l)=false:=by
 rw[beq_eq_false_iff_ne]
 intro e
 apply h
 rw[bytes_toList]at e
 cases op with
 | mk d=>subst e;simp
theorem signbit_any (x:Nat) (w:World):Calls Tryz.prog 127 #[.float .f64 x] w (fun e w'=>e=.returned (.bool (signB x))∧w=w'):=by
 have k0:=fun (w:World)=>run_f64bits x w
 go_enter Tryz.func127,Tryz.ntmps127
 go_wp2
 go_ret
 exact ⟨rfl,rfl⟩
theorem abs_any (x:Nat) (w:World):Calls Tryz.prog 150 #[.float .f64 x] w (fun e w'=>e=.returned (.float .f64 (absF x))∧w=w'):=by
 have k0:=fun (w:World)=>run_f64bits x w
 have k1:∀(w:World),(callFunc 132 #[.int .u64 (bits .andNot .u64 x 9223372036854775808)]).run Tryz.prog w=.ok (.value (.float .f64 (absF x))) w:=fun w=>by
  rw[run_callFunc_extern Tryz.func132 (by kernel_rfl) (by kernel_rfl) (by kernel_rfl) (e:=Extern.MathFloatBits.float64frombits) (by kernel_rfl)];rfl
 go_enter Tryz.func150,Tryz.ntmps150
 go_wp2
 go_ret
 exact ⟨rfl,rfl⟩
def infB (x:Nat):Bool:=ordF (absF x) 9218868437227405311==some .gt
theorem isInf_any (x:Nat) (w:World):Calls Tryz.prog 128 #[.float .f64 x,.int .i64 0] w (fun e w'=>e=.returned (.bool (infB x))∧w=w'):=by
 have HA:=Hd (abs_any x w)
 go_enter Tryz.func128,Tryz.ntmps128
 go_wp2_with fail
 refine HA.out.mono ?_
 rintro e w1 ⟨rfl,rfl⟩
 go_wp2
 go_ret
 exact ⟨rfl,rfl⟩
open Classical in
noncomputable def fnO (s:ByteArray):Option Int:=if s∈[gLen,gKind,gKeys,gFirst,gLast,gSum,gLeast,gMost] then some 1 else if s∈[gHas,gAny,gAll,gMap,gPick] then some 2 else none
theorem function_any (s:ByteArray) (w:World):Calls Tryz.prog 125 #[.string s] w (fun e w'=>e=.returned (.tuple #[.int .i64 ((fnO s).getD 0),.bool (fnO s).isSome])∧w=w'):=by
 by_cases hLen:s=gLen
 ·subst hLen
  have HF:Hid (fnO gLen=some 1):=Hd (by unfold fnO;rw[if_pos (by simp)])
  go_enter Tryz.func125,Tryz.ntmps125
  go_wp2
  go_ret2
  exact ⟨by rw[HF.out];rfl,rfl⟩
 by_cases hKind:s=gKind
 ·subst hKind
  have HF:Hid (fnO gKind=some 1):=Hd (by unfold fnO;rw[if_pos (by simp)])
  go_enter Tryz.func125,Tryz.ntmps125
  go_wp2
  go_ret2
  exact ⟨by rw[HF.out];rfl,rfl⟩
 by_cases hKeys:s=gKeys
 ·subst hKeys
  have HF:Hid (fnO gKeys=some 1):=Hd (by unfold fnO;rw[if_pos (by simp)])
  go_enter Tryz.func125,Tryz.ntmps125
  go_wp2
  go_ret2
  exact ⟨by rw[HF.out];rfl,rfl⟩
 by_cases hFirst:s=gFirst
 ·subst hFirst
  have HF:Hid (fnO gFirst=some 1):=Hd (by unfold fnO;rw[if_pos (by simp)])
  go_enter Tryz.func125,Tryz.ntmps125
  go_wp2
  go_ret2
  exact ⟨by rw[HF.out];rfl,rfl⟩
 by_cases hLast:s=gLast
 ·subst hLast
  have HF:Hid (fnO gLast=some 1):=Hd (by unfold fnO;rw[if_pos (by simp)])
  go_enter Tryz.func125,Tryz.ntmps125
  go_wp2
  go_ret2
  exact ⟨by rw[HF.out];rfl,rfl⟩
 by_cases hSum:s=gSum
 ·subst hSum
  have HF:Hid (fnO gSum=some 1):=Hd (by unfold fnO;rw[if_pos (by simp)])
  go_enter Tryz.func125,Tryz.ntmps125
  go_wp2
  go_ret2
  exact ⟨by rw[HF.out];rfl,rfl⟩
 by_cases hLeast:s=gLeast
 ·subst hLeast
  have HF:Hid (fnO gLeast=some 1):=Hd (by unfold fnO;rw[if_pos (by simp)])
  go_enter Tryz.func125,Tryz.ntmps125
  go_wp2
  go_ret2
  exact ⟨by rw[HF.out];rfl,rfl⟩
 by_cases hMost:s=gMost
 ·subst hMost
  have HF:Hid (fnO gMost=some 1):=Hd (by unfold fnO;rw[if_pos (by simp)])
  go_enter Tryz.func125,Tryz.ntmps125
  go_wp2
  go_ret2
  exact ⟨by rw[HF.out];rfl,rfl⟩
 by_cases hHas:s=gHas
 ·subst hHas
  have HF:Hid (fnO gHas=some 2):=Hd (by unfold fnO;rw[if_neg (by simp),if_pos (by simp)])
  go_enter Tryz.func125,Tryz.ntmps125
  go_wp2
  go_ret2
  exact ⟨by rw[HF.out];rfl,rfl⟩
 by_cases hAny:s=gAny
 ·subst hAny
  have HF:Hid (fnO gAny=some 2):=Hd (by unfold fnO;rw[if_neg (by simp),if_pos (by simp)])
  go_enter Tryz.func125,Tryz.ntmps125
  go_wp2
  go_ret2
  exact ⟨by rw[HF.out];rfl,rfl⟩
 by_cases hAll:s=gAll
 ·subst hAll
  have HF:Hid (fnO gAll=some 2):=Hd (by unfold fnO;rw[if_neg (by simp),if_pos (by simp)])
  go_enter Tryz.func125,Tryz.ntmps125
  go_wp2
  go_ret2
  exact ⟨by rw[HF.out];rfl,rfl⟩
 by_cases hMap:s=gMap
 ·subst hMap
  have HF:Hid (fnO gMap=some 2):=Hd (by unfold fnO;rw[if_neg (by simp),if_pos (by simp)])
  go_enter Tryz.func125,Tryz.ntmps125
  go_wp2
  go_ret2
  exact ⟨by rw[HF.out];rfl,rfl⟩
 by_cases hPick:s=gPick
 ·subst hPick
  have HF:Hid (fnO gPick=some 2):=Hd (by unfold fnO;rw[if_neg (by simp),if_pos (by simp)])
  go_enter Tryz.func125,Tryz.ntmps125
  go_wp2
  go_ret2
  exact ⟨by rw[HF.out];rfl,rfl⟩
 have HF:Hid (fnO s=none):=Hd (by unfold fnO;rw[if_neg (by simp[hLen,hKind,hKeys,hFirst,hLast,hSum,hLeast,hMost]),if_neg (by simp[hHas,hAny,hAll,hMap,hPick])])
 have eLen:=neS [108,101,110] hLen
 have eKind:=neS [107,105,110,100] hKind
 have eKeys:=neS [107,101,121,115] hKeys
 have eFirst:=neS [102,105,114,115,116] hFirst
 have eLast:=neS [108,97,115,116] hLast
 have eSum:=neS [115,117,109] hSum
 have eLeast:=neS [108,101,97,115,116] hLeast
 have eMost:=neS [109,111,115,116] hMost
 have eHas:=neS [104,97,115] hHas
 have eAny:=neS [97,110,121] hAny
 have eAll:=neS [97,108,108] hAll
 have eMap:=neS [109,97,112] hMap
 have ePick:=neS [112,105,99,107] hPick
 clear hLen hKind hKeys hFirst hLast hSum hLeast hMost hHas hAny hAll hMap hPick
 go_enter Tryz.func125,Tryz.ntmps125
 go_wp2
 go_ret2
 exact ⟨by rw[HF.out];rfl,rfl⟩
def levelled:List ByteArray:=[oOr,oAnd,oNot,oEq,oNe,oLt,oLe,oGt,oGe,oIn,oIs,oAdd,oSub,oMul,oDiv,oRem,oNeg,oDot,oAt]
theorem level_any (s:ByteArray) (w:World):Calls Tryz.prog 126 #[.string s] w (fun e w'=>∃k:Int,e=.returned (.int .i64 k)∧(k<9↔s∈levelled)∧w=w'):=by
 by_cases hOr:s=oOr
 ·subst hOr
  go_enter Tryz.func126,Tryz.ntmps126
  go_wp2
  go_ret
  exact ⟨1,rfl,⟨fun _=>by unfold levelled;simp,fun _=>by decide⟩,rfl⟩
 by_cases hAnd:s=oAnd
 ·subst hAnd
  go_enter Tryz.func126,Tryz.ntmps126
  go_wp2
  go_ret
  exact ⟨2,rfl,⟨fun _=>by unfold levelled;simp,fun _=>by decide⟩,rfl⟩
 by_cases hNot:s=oNot
 ·subst hNot
  go_enter Tryz.func126,Tryz.ntmps126
  go_wp2
  go_ret
  exact ⟨3,rfl,⟨fun _=>by unfold levelled;simp,fun _=>by decide⟩,rfl⟩
 by_cases hEq:s=oEq
 ·subst hEq
  go_enter Tryz.func126,Tryz.ntmps126
  go_wp2
  go_ret
  exact ⟨4,rfl,⟨fun _=>by unfold levelled;simp,fun _=>by decide⟩,rfl⟩
 by_cases hNe:s=oNe
 ·subst hNe
  go_enter Tryz.func126,Tryz.ntmps126
  go_wp2
  go_ret
  exact ⟨4,rfl,⟨fun _=>by unfold levelled;simp,fun _=>by decide⟩,rfl⟩
 by_cases hLt:s=oLt
 ·subst hLt
  go_enter Tryz.func126,Tryz.ntmps126
  go_wp2
  go_ret
  exact ⟨4,rfl,⟨fun _=>by unfold levelled;simp,fun _=>by decide⟩,rfl⟩
 by_cases hLe:s=oLe
 ·subst hLe
  go_enter Tryz.func126,Tryz.ntmps126
  go_wp2
  go_ret
  exact ⟨4,rfl,⟨fun _=>by unfold levelled;simp,fun _=>by decide⟩,rfl⟩
 by_cases hGt:s=oGt
 ·subst hGt
  go_enter Tryz.func126,Tryz.ntmps126
  go_wp2
  go_ret
  exact ⟨4,rfl,⟨fun _=>by unfold levelled;simp,fun _=>by decide⟩,rfl⟩
 by_cases hGe:s=oGe
 ·subst hGe
  go_enter Tryz.func126,Tryz.ntmps126
  go_wp2
  go_ret
  exact ⟨4,rfl,⟨fun _=>by unfold levelled;simp,fun _=>by decide⟩,rfl⟩
 by_cases hIn:s=oIn
 ·subst hIn
  go_enter Tryz.func126,Tryz.ntmps126
  go_wp2
  go_ret
  exact ⟨4,rfl,⟨fun _=>by unfold levelled;simp,fun _=>by decide⟩,rfl⟩
 by_cases hIs:s=oIs
 ·subst hIs
  go_enter Tryz.func126,Tryz.ntmps126
  go_wp2
  go_ret
  exact ⟨4,rfl,⟨fun _=>by unfold levelled;simp,fun _=>by decide⟩,rfl⟩
 by_cases hAdd:s=oAdd
 ·subst hAdd
  go_enter Tryz.func126,Tryz.ntmps126
  go_wp2
  go_ret
  exact ⟨5,rfl,⟨fun _=>by unfold levelled;simp,fun _=>by decide⟩,rfl⟩
 by_cases hSub:s=oSub
 ·subst hSub
  go_enter Tryz.func126,Tryz.ntmps126
  go_wp2
  go_ret
  exact ⟨5,rfl,⟨fun _=>by unfold levelled;simp,fun _=>by decide⟩,rfl⟩
 by_cases hMul:s=oMul
 ·subst hMul
  go_enter Tryz.func126,Tryz.ntmps126
  go_wp2
  go_ret
  exact ⟨6,rfl,⟨fun _=>by unfold levelled;simp,fun _=>by decide⟩,rfl⟩
 by_cases hDiv:s=oDiv
 ·subst hDiv
  go_enter Tryz.func126,Tryz.ntmps126
  go_wp2
  go_ret
  exact ⟨6,rfl,⟨fun _=>by unfold levelled;simp,fun _=>by decide⟩,rfl⟩
 by_cases hRem:s=oRem
 ·subst hRem
  go_enter Tryz.func126,Tryz.ntmps126
  go_wp2
  go_ret
  exact ⟨6,rfl,⟨fun _=>by unfold levelled;simp,fun _=>by decide⟩,rfl⟩
 by_cases hNeg:s=oNeg
 ·subst hNeg
  go_enter Tryz.func126,Tryz.ntmps126
  go_wp2
  go_ret
  exact ⟨7,rfl,⟨fun _=>by unfold levelled;simp,fun _=>by decide⟩,rfl⟩
 by_cases hDot:s=oDot
 ·subst hDot
  go_enter Tryz.func126,Tryz.ntmps126
  go_wp2
  go_ret
  exact ⟨8,rfl,⟨fun _=>by unfold levelled;simp,fun _=>by decide⟩,rfl⟩
 by_cases hAt:s=oAt
 ·subst hAt
  go_enter Tryz.func126,Tryz.ntmps126
  go_wp2
  go_ret
  exact ⟨8,rfl,⟨fun _=>by unfold levelled;simp,fun _=>by decide⟩,rfl⟩
 have eOr:=neS [111,114] hOr
 have eAnd:=neS [97,110,100] hAnd
 have eNot:=neS [110,111,116] hNot
 have eEq:=neS [61] hEq
 have eNe:=neS [33,61] hNe
 have eLt:=neS [60] hLt
 have eLe:=neS [60,61] hLe
 have eGt:=neS [62] hGt
 have eGe:=neS [62,61] hGe
 have eIn:=neS [105,110] hIn
 have eIs:=neS [105,115] hIs
 have eAdd:=neS [43] hAdd
 have eSub:=neS [45] hSub
 have eMul:=neS [42] hMul
 have eDiv:=neS [47] hDiv
 have eRem:=neS [37] hRem
 have eNeg:=neS [110,101,103] hNeg
 have eDot:=neS [100,111,116] hDot
 have eAt:=neS [97,116] hAt
 have hn:¬s∈levelled:=by unfold levelled;simp[hOr,hAnd,hNot,hEq,hNe,hLt,hLe,hGt,hGe,hIn,hIs,hAdd,hSub,hMul,hDiv,hRem,hNeg,hDot,hAt]
 clear hOr hAnd hNot hEq hNe hLt hLe hGt hGe hIn hIs hAdd hSub hMul hDiv hRem hNeg hDot hAt
 go_enter Tryz.func126,Tryz.ntmps126
 go_wp2
 go_ret
 exact ⟨9,rfl,⟨fun h=>absurd h (by decide),fun h=>absurd h hn⟩,rfl⟩
end Go.Proofs.YtbemeapjeipjlaaGreatDoor
