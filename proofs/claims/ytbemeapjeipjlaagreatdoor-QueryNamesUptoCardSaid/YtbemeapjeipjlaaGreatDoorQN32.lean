/- Walks: value.Copy of any value; query.Eval. -/
import Derived.Test.YtbemeapjeipjlaaGreatDoorQN31
import Derived.Laws.AppendOwnNone
set_option linter.unusedVariables false
set_option linter.unusedSimpArgs false
namespace Go.Proofs.YtbemeapjeipjlaaGreatDoor
open Go Go.RowKit
set_option maxRecDepth 100000
set_option maxHeartbeats 8000000
def CopyOut (x:V) (w:World) (e:Ending) (w':World):Prop:=
 ∃u,e=.returned (.tuple #[u,.int .i64 (checkV x).2])∧RdS w' (New w w') (if (checkV x).2=0 then x else .nil) u∧Below w.heap.size w w'
theorem copy_out (x:V) (v:Value) (w:World) (h:Rd w w.heap.size x v):Calls Tryz.prog 25 #[v] w (CopyOut x w):=by
 by_cases hz:(checkV x).2=0
 ·refine (copy_any x v w (okV_check.2 hz) h).mono ?_
  rintro e w' ⟨u,rfl,hu,hb⟩
  exact ⟨u,by rw[hz];rfl,by rw[if_pos hz];exact hu,hb⟩
 have H1:Hid (Calls Tryz.prog 45 #[v] w (CheckPost x w)):=Hd (check_any x v w h)
 unfold CheckPost at H1
 unfold CopyOut
 rw[if_neg hz]
 generalize checkV x=ck at *
 have hq:((ck.2:Int)!=0)=true:=by rw[bne_iff_ne];omega
 clear h hz
 go_enter Tryz.func25,Tryz.ntmps25
 go_wp2_with fail
 refine H1.out.mono ?_
 rintro e w1 ⟨rfl,hb1⟩
 go_wp2
 go_ret2
 exact ⟨.nilIface,rfl,rfl,hb1⟩
noncomputable def evalR (e:Ex) (v:V):V×Int×Nat:=
 if (evalV e v).2.2≠0 then (.nil,(evalV e v).2.1,(evalV e v).2.2)
 else (if (checkV (evalV e v).1).2=0 then (evalV e v).1 else .nil,0,0)
def TellPost (r:V×Int×Nat) (w:World) (e:Ending) (w':World):Prop:=∃xv,e=.returned (.tuple #[xv,.int .i64 r.2.1,.int .i64 r.2.2])∧Below w.heap.size w w'∧RdS w' (New w w') r.1 xv
theorem eval_any (e:Ex) (x:List Value) (v:V) (vv:Value) (S:Nat→Prop) (w:World) (hS:∀b,S b→b<w.heap.size) (hx:RdES w S e x) (hv:RdS w S v vv) (hw:Words w S 1 kindWords) (hw2:Words w S 2 wordList) :
  Calls Tryz.prog 24 #[termOf x,vv] w (EvalPost S (evalV e v) w):=by
 by_cases hz:(checkV v).2=0
 ·cases hval:validV e
  ·exact eval_invalid e x v vv S w hS hx hv hw hw2 hz hval
  ·exact eval_asks e x v vv S w hS hx hv hw hw2 hz hval
 ·exact eval_refused e x v vv S w hS hx hv hz
theorem tell_any (e:Ex) (x:List Value) (v:V) (vv:Value) (S:Nat→Prop) (w:World) (hS:∀b,S b→b<w.heap.size) (hx:RdES w S e x) (hv:RdS w S v vv) (hw:Words w S 1 kindWords) (hw2:Words w S 2 wordList):Calls Tryz.prog 8 #[termOf x,vv] w (TellPost (evalR e v) w):=by
 have HE:=Hd (fun (W:World) (hW:Below w.heap.size w W)=>eval_any e x v vv S W (fun b h=>Nat.lt_of_lt_of_le (hS b h) hW.size) (RdES.keep (fun p hp=>hW.cell (hS _ hp)) _ _ hx) (hv.to hS hW) (Words.below hw hS hW) (Words.below hw2 hS hW))
 have HR:Hid (evalR e v=if (evalV e v).2.2≠0 then (.nil,(evalV e v).2.1,(evalV e v).2.2) else (if (checkV (evalV e v).1).2=0 then (evalV e v).1 else .nil,0,0)):=Hd rfl
 unfold EvalPost at HE
 generalize evalV e v=q at *
 generalize evalR e v=R at *
 clear hv hw hw2
 obtain ⟨op',a',l',nm',t'⟩:=e
 obtain ⟨A',c',y',rfl,-,-,-,hty,-⟩:=hx
 obtain ⟨m0,m1,m2,m3,m4,m5,m6,m7,m8,m9,m10,rfl,h1c⟩:=hty.elevenS
 clear hty h1c
 unfold termOf at *
 have hB:Below w.heap.size w (w.alloc (.cells #[.string op',.int .i64 a',.slice A' l'.length c',.string nm',m0,m1,m2,m3,m4,m5,m6,m7,m8,m9,m10] 32)):=bnew
 have HB:=Hd hB
 have hsz:w.heap.size≤(w.alloc (.cells #[.string op',.int .i64 a',.slice A' l'.length c',.string nm',m0,m1,m2,m3,m4,m5,m6,m7,m8,m9,m10] 32)).heap.size:=hB.size
 clear hB
 go_enter Tryz.func8,Tryz.ntmps8
 go_wp2_with fail
 refine (HE.out _ HB.out).mono ?_
 rintro e w1 ⟨xv,rfl,hb1,hxv⟩
 have hbb1:=HB.out.trans (hb1.mono hsz)
 by_cases hq:q.2.2=0
 ·have h0:((q.2.2:Int)!=0)=false:=by rw[hq];rfl
  have HC:=Hd (copy_out q.1 xv w1 (RdS.more (fun b hb=>hb.elim (fun h=>Nat.lt_of_lt_of_le (hS b h) hbb1.size) (fun h=>h.2)) _ _ hxv))
  have HQ:Hid (R=(if (checkV q.1).2=0 then q.1 else .nil,0,0)):=Hd (by rw[HR.out,if_neg (by omega)])
  rw[hq]at h0
  have e0:q.2.2=0:=hq
  obtain ⟨qx,qa,qw⟩:=q
  simp only at hq
  subst hq
  clear hxv HR
  go_wp2_with fail
  refine HC.out.mono ?_
  rintro e w2 ⟨u,rfl,hu,hb2⟩
  go_wp2
  (try simp only[Exit.inBlock,Exit.then]);refine bodyPost_ret (results_tmp3 rfl _ _ _) rfl ?_
  rw[HQ.out]
  exact ⟨u,rfl,below_then hbb1 (Nat.le_refl _) hb2,RdS.more (fun b hb=>⟨Nat.le_trans hbb1.size hb.1,hb.2⟩) _ _ hu⟩
 ·have h0:((q.2.2:Int)!=0)=true:=by rw[bne_iff_ne];omega
  have HQ:Hid (R=(.nil,q.2.1,q.2.2)):=Hd (by rw[HR.out,if_pos hq])
  clear hxv HR
  go_wp2
  (try simp only[Exit.inBlock,Exit.then]);refine bodyPost_ret (results_tmp3 rfl _ _ _) rfl ?_
  rw[HQ.out]
  exact ⟨_,rfl,hbb1,rfl⟩
theorem RdES.fifteen {w:World} {S:Nat→Prop} {x:Ex} {v:List Value} (h:RdES w S x v):v.length=15∧∀u∈v,u.oneCell'=true:=by
 obtain ⟨op',a',l',nm',t'⟩:=x
 obtain ⟨A',c',y',rfl,-,-,-,hty,-⟩:=h
 obtain ⟨m0,m1,m2,m3,m4,m5,m6,m7,m8,m9,m10,rfl,h1c⟩:=hty.elevenS
 refine ⟨rfl,?_⟩
 intro u hu
 simp only[List.mem_cons]at hu
 rcases hu with rfl|rfl|rfl|rfl|hu
 ·rfl
 ·rfl
 ·rfl
 ·rfl
 ·exact h1c u (by simpa using hu)
def OwnE (F:Nat→Prop) (w:World) (B:Nat) (v:Value) (l:List Ex):Prop:=
 ∃xs,w.ownsRow B 32 15 v l.length xs∧∀(i:Nat) (x:Ex),l[i]?=some x→∃u,(∀j y,u[j]?=some y→xs[i*15+j]?=some y)∧RdES w (Fresh F w v) x u
theorem OwnE.form {F:Nat→Prop} {w:World} {B:Nat} {v:Value} {l:List Ex} (h:OwnE F w B v l):∃A c,v=.slice A l.length c:=by
 obtain ⟨xs,h,_⟩:=h;exact ownsRow_form h
theorem OwnE.below {F:Nat→Prop} {w w':World} {B:Nat} {v:Value} {l:List Ex} (h:OwnE F w B v l) (hb:Below w.heap.size w w'):OwnE F w' B v l:=by
 obtain ⟨xs,ho,hx⟩:=h
 refine ⟨xs,ownsRow_below ho hb,fun i x hi=>?_⟩
 obtain ⟨u,hu,hr⟩:=hx i x hi
 exact ⟨u,hu,RdES.more (fun b hb'=>⟨hb'.1,Nat.lt_of_lt_of_le hb'.2.1 hb.size,hb'.2.2⟩) _ _ (RdES.keep (fun p hp=>hb.cell hp.2.1) _ _ hr)⟩
theorem OwnE.empty (F:Nat→Prop) (w:World) (B:Nat) (hB:B≤w.heap.size):OwnE F (w.alloc (.cells #[] 32)) B (.slice (some ⟨w.heap.size,0,none⟩) 0 0) []:=
 ⟨[],ownsRow_empty w B _ 15 hB,fun i x h=>by simp at h⟩
theorem OwnE.snoc {F:Nat→Prop} {w w2:World} {B:Nat} {v:Value} {l:List Ex} {xs u:List Value} {y:Ex} {g cap n:Nat} (hln:l.length=n)
  (hown:w.ownsRow B 32 15 v n xs) (hx:∀(i:Nat) (x:Ex),l[i]?=some x→∃u,(∀j y,u[j]?=some y→xs[i*15+j]?=some y)∧RdES w (Fresh F w v) x u) (hy:RdES w (Fresh F w v) y u)
  (hown2:w2.ownsRow B 32 15 (.slice (some ⟨g,0,none⟩) (n+1) cap) (n+1) (xs++u)) (hg:w.grownBy w2 v.ownBlock) (hat:v.ownBlock=some g∨g=w.heap.size) :
  OwnE F w2 B (.slice (some ⟨g,0,none⟩) (n+1) cap) (l++[y]):=by
 subst hln
 have hlen:xs.length=l.length*15:=hown.1
 have mv:∀z t,RdES w (Fresh F w v) z t→RdES w2 (Fresh F w2 (.slice (some ⟨g,0,none⟩) (l.length+1) cap)) z t:=by
  intro z t hz
  refine RdES.more (fun b hb=>⟨hb.1,Nat.lt_of_lt_of_le hb.2.1 hg.size,?_⟩) _ _ (RdES.keep (grown_keep hg (fun b hb=>⟨hb.2.1,hb.2.2⟩)) _ _ hz)
  intro e
  simp only[Value.ownBlock,Option.some.injEq]at e
  subst e
  rcases hat with h|h
  ·exact hb.2.2 h
  ·have:=hb.2.1;omega
 refine ⟨xs++u,by simpa using hown2,fun i x hi=>?_⟩
 by_cases h:i<l.length
 ·rw[List.getElem?_append_left h]at hi
  obtain ⟨t,ht,hr⟩:=hx i x hi
  exact ⟨t,fun j y hj=>by rw[List.getElem?_append_left (List.getElem?_eq_some_iff.1 (ht j y hj)).1];exact ht j y hj,mv _ _ hr⟩
 ·have hi2:i=l.length:=by
   have:=(List.getElem?_eq_some_iff.1 hi).1;simp at this;omega
  subst hi2
  simp at hi
  subst hi
  exact ⟨u,fun j y hj=>by rw[List.getElem?_append_right (by omega),hlen,Nat.add_sub_cancel_left];exact hj,mv _ _ hy⟩
theorem OwnE.read {F:Nat→Prop} {w:World} {B:Nat} {v:Value} {l:List Ex} (h:OwnE F w B v l) :
  ∃A c,v=.slice A l.length c∧PartsS w (fun b=>(F b∨B≤b)∧b<w.heap.size) A l:=by
 obtain ⟨xs,ho,hx⟩:=h
 obtain ⟨A,c,rfl⟩:=ownsRow_form ho
 refine ⟨A,c,rfl,?_⟩
 by_cases hn:l.length=0
 ·exact .inl (List.eq_nil_of_length_eq_zero hn)
 ·obtain ⟨g,cap,hv,hg,hlt⟩:=ho.form (by omega)
  injection hv with hA _ hc
  subst hA
  refine .inr ⟨g,0,rfl,⟨.inr hg,hlt⟩,RdEL.iff.2 fun i x hi=>?_⟩
  obtain ⟨u,hu,hr⟩:=hx i x hi
  refine ⟨u,fun j y hj=>by have:=ho.cells (g:=g) rfl _ _ (hu j y hj);simpa [Addr.add_lit,Nat.add_assoc] using this,RdES.more (fun b hb=>⟨.inl hb.1,hb.2.1⟩) _ _ hr⟩
theorem fresh_of_newE {F:Nat→Prop} {wr w1 w2:World} {B:Nat} {S:Nat→Prop} {e:TypeId} {size n:Nat} {v:Value} {xs:List Value} {x:Ex} {u:List Value} (h:RdES w1 (fun b=>S b∨New wr w1 b) x u) (hb:Below w1.heap.size w1 w2) (hw:wr.heap.size≤w1.heap.size) (hF:∀b,wr.heap.size≤b→F b)
  (hS:∀b,S b→F b∧b<B∧b<wr.heap.size) (hown:wr.ownsRow B e size v n xs):RdES w2 (Fresh F w2 v) x u:=by
 have hlt:∀b,(S b∨New wr w1 b)→b<w1.heap.size:=fun b hb'=>hb'.elim (fun h=>Nat.lt_of_lt_of_le (hS b h).2.2 hw) (fun h=>h.2)
 refine RdES.more (fun b hb'=>⟨hb'.elim (fun h=>(hS b h).1) (fun h=>hF b h.1),Nat.lt_of_lt_of_le (hlt b hb') hb.size,fun he=>?_⟩) _ _ (RdES.keep (fun p hp=>hb.cell (hlt _ hp)) _ _ h)
 have h1:=(hown.lt b he).1
 have h2:=(hown.lt b he).2
 rcases hb' with h|h
 ·have:=(hS b h).2.1;omega
 ·have:=h.1;omega
theorem Tryz.infoExpr:(Tryz.prog.info? 32).map (fun i=>(i.zero,i.size,i.bytes))=some (some (.agg #[.string ⟨#[]⟩,.int .i64 0,.slice none 0 0,.string ⟨#[]⟩,.int .i64 0,.bool false,.int .i64 0,.float .f64 0,.string ⟨#[]⟩,.slice none 0 0,.int .u64 0,.slice none 0 0,.slice none 0 0,.string ⟨#[]⟩,.int .i64 0]),15,216):=by kernel_rfl
def CopiedPost (S:Nat→Prop) (e:Ex) (w:World) (en:Ending) (w':World):Prop:=∃y,en=.returned (termOf y)∧RdES w' (fun b=>S b∨New w w' b) e y∧Below w.heap.size w w'
def CopiedC (e:Ex):Prop:=∀(x:List Value) (S:Nat→Prop) (w:World),(∀b,S b→b<w.heap.size)→RdES w S e x→Calls Tryz.prog 9 #[termOf x] w (CopiedPost S e w)
theorem PartsS.more {w:World} {S S':Nat→Prop} {A:Option Addr} {l:List Ex} (h:PartsS w S A l) (hS:∀b,S b→S' b):PartsS w S' A l:=by
 refine h.imp id ?_
 rintro ⟨b,off,hA,hb,hr⟩
 refine ⟨b,off,hA,hS _ hb,RdEL.iff.2 fun i x hx=>?_⟩
 obtain ⟨v,hv,hd⟩:=RdEL.iff.1 hr i x hx
 exact ⟨v,hv,RdES.more hS _ _ hd⟩
theorem PartsS.keep {w w':World} {S:Nat→Prop} {A:Option Addr} {l:List Ex} (h:PartsS w S A l) (hk:∀p:Addr,S p.block→w'.cell? p=w.cell? p):PartsS w' S A l:=by
 refine h.imp id ?_
 rintro ⟨b,off,hA,hb,hr⟩
 refine ⟨b,off,hA,hb,RdEL.iff.2 fun i x hx=>?_⟩
 obtain ⟨v,hv,hd⟩:=RdEL.iff.1 hr i x hx
 exact ⟨v,hv.keep (fun p hp=>hk p (by rw[hp];exact hb)),RdES.keep hk _ _ hd⟩
theorem copied_step (op:ByteArray) (a:Int) (l:List Ex) (nm:ByteArray) (t:Tm) (ih:∀x∈l,CopiedC x):CopiedC (.mk op a l nm t):=by
 rintro x S w hS ⟨A,c,y,rfl,hop,ha,hnm,hty,hll,hp⟩
 replace hp:PartsS w S A l:=hp
 obtain ⟨i0,hi0,hz0,hz1,hz2⟩:=info_parts Tryz.infoExpr
 have HTY:=Hd hty
 obtain ⟨m0,m1,m2,m3,m4,m5,m6,m7,m8,m9,m10,rfl,h1c⟩:=hty.elevenS
 have o0:=fun W a m=>run_store Tryz.prog W a m0 m (h1c m0 (by simp))
 have o1:=fun W a m=>run_store Tryz.prog W a m1 m (h1c m1 (by simp))
 have o2:=fun W a m=>run_store Tryz.prog W a m2 m (h1c m2 (by simp))
 have o3:=fun W a m=>run_store Tryz.prog W a m3 m (h1c m3 (by simp))
 have o4:=fun W a m=>run_store Tryz.prog W a m4 m (h1c m4 (by simp))
 have o5:=fun W a m=>run_store Tryz.prog W a m5 m (h1c m5 (by simp))
 have o6:=fun W a m=>run_store Tryz.prog W a m6 m (h1c m6 (by simp))
 have o7:=fun W a m=>run_store Tryz.prog W a m7 m (h1c m7 (by simp))
 have o8:=fun W a m=>run_store Tryz.prog W a m8 m (h1c m8 (by simp))
 have o9:=fun W a m=>run_store Tryz.prog W a m9 m (h1c m9 (by simp))
 have o10:=fun W a m=>run_store Tryz.prog W a m10 m (h1c m10 (by simp))
 have HB1:Hid (Below w.heap.size w (w.alloc (.cells #[.string op,.int .i64 a,.slice A l.length c,.string nm,m0,m1,m2,m3,m4,m5,m6,m7,m8,m9,m10] 32))):=Hd bnew
 have HB2:Hid (Below w.heap.size w ((w.alloc (.cells #[.string op,.int .i64 a,.slice A l.length c,.string nm,m0,m1,m2,m3,m4,m5,m6,m7,m8,m9,m10] 32)).alloc (.cells #[.string ⟨#[]⟩,.int .i64 0,.slice none 0 0,.string ⟨#[]⟩,.int .i64 0,.bool false,.int .i64 0,.float .f64 0,.string ⟨#[]⟩,.slice none 0 0,.int .u64 0,.slice none 0 0,.slice none 0 0,.string ⟨#[]⟩,.int .i64 0] 32))):=Hd (HB1.out.alloc HB1.out.size _)
 have hsz:((w.alloc (.cells #[.string op,.int .i64 a,.slice A l.length c,.string nm,m0,m1,m2,m3,m4,m5,m6,m7,m8,m9,m10] 32)).alloc (.cells #[.string ⟨#[]⟩,.int .i64 0,.slice none 0 0,.string ⟨#[]⟩,.int .i64 0,.bool false,.int .i64 0,.float .f64 0,.string ⟨#[]⟩,.slice none 0 0,.int .u64 0,.slice none 0 0,.slice none 0 0,.string ⟨#[]⟩,.int .i64 0] 32)).heap.size=w.heap.size+2:=by simp
 clear h1c hty
 unfold termOf
 go_enter Tryz.func9,Tryz.ntmps9
 go_wp2
 go_loopw [3,4] (fun y j wr=>∃k:Nat,j=.int .i64 k∧k≤l.length∧Below (w.heap.size+2) ((w.alloc (.cells #[.string op,.int .i64 a,.slice A l.length c,.string nm,m0,m1,m2,m3,m4,m5,m6,m7,m8,m9,m10] 32)).alloc (.cells #[.string ⟨#[]⟩,.int .i64 0,.slice none 0 0,.string ⟨#[]⟩,.int .i64 0,.bool false,.int .i64 0,.float .f64 0,.string ⟨#[]⟩,.slice none 0 0,.int .u64 0,.slice none 0 0,.slice none 0 0,.string ⟨#[]⟩,.int .i64 0] 32)) wr∧OwnE (fun b=>S b∨w.heap.size+2≤b) wr (w.heap.size+2) y (l.take k)) (fun _ j _=>l.length-(intOf j).toNat)
 case atStart =>
  refine ⟨0,rfl,by omega,(Below.refl _ _).alloc (by simp) _,?_⟩
  have:=OwnE.empty (fun b=>S b∨w.heap.size+2≤b) ((w.alloc (.cells #[.string op,.int .i64 a,.slice A l.length c,.string nm,m0,m1,m2,m3,m4,m5,m6,m7,m8,m9,m10] 32)).alloc (.cells #[.string ⟨#[]⟩,.int .i64 0,.slice none 0 0,.string ⟨#[]⟩,.int .i64 0,.bool false,.int .i64 0,.float .f64 0,.string ⟨#[]⟩,.slice none 0 0,.int .u64 0,.slice none 0 0,.slice none 0 0,.string ⟨#[]⟩,.int .i64 0] 32)) (w.heap.size+2) (by simp)
  simpa using this
 case round =>
  obtain ⟨k,rfl,hk,hb,hO⟩:=hrel
  obtain ⟨A1,c1,rfl⟩:=hO.form
  have hz:w.heap.size+2≤wr.heap.size:=by have:=hb.size;rw[hsz]at this;exact this
  have hb0:Below w.heap.size w wr:=HB2.out.trans (hb.mono (by omega))
  have qe:∀o,wr.cell? ⟨w.heap.size,o,none⟩=((w.alloc (.cells #[.string op,.int .i64 a,.slice A l.length c,.string nm,m0,m1,m2,m3,m4,m5,m6,m7,m8,m9,m10] 32)).alloc (.cells #[.string ⟨#[]⟩,.int .i64 0,.slice none 0 0,.string ⟨#[]⟩,.int .i64 0,.bool false,.int .i64 0,.float .f64 0,.string ⟨#[]⟩,.slice none 0 0,.int .u64 0,.slice none 0 0,.slice none 0 0,.string ⟨#[]⟩,.int .i64 0] 32)).cell? ⟨w.heap.size,o,none⟩:=fun o=>hb.cell (p:=⟨w.heap.size,o,none⟩) (show w.heap.size<w.heap.size+2 by omega)
  by_cases hlt:k<l.length
  ·obtain ⟨p,hpk⟩:∃p,l[k]?=some p:=⟨_,List.getElem?_eq_getElem hlt⟩
   obtain ⟨bl,off,vs,rfl,hSb,e1,hvs⟩:=hp.get hpk
   have hbB:=hS _ hSb
   have e1':=e1.keep (fun p hp=>hb0.cell (by rw[hp];exact hbB))
   have HC:=Hd (ih p (List.mem_of_getElem? hpk) vs S wr (fun b h=>Nat.lt_of_lt_of_le (hS b h) hb0.size) (RdES.keep (fun p hp=>hb0.cell (hS _ hp)) _ _ hvs))
   have hxl:(l.take k).length=k:=by simp;omega
   have HT:Hid (l.take (k+1)=l.take k++[p]):=Hd (by rw[List.take_add_one,hpk];simp)
   obtain ⟨op',a',l',nm',t'⟩:=p
   obtain ⟨A',c',y',rfl,-,-,-,hty,-⟩:=hvs
   obtain ⟨n0,n1,n2,n3,n4,n5,n6,n7,n8,n9,n10,rfl,h1c⟩:=hty.elevenS
   obtain ⟨q0,q1,q2,q3,q4,q5,q6,q7,q8,q9,q10,q11,q12,q13,q14⟩:=lie15 e1'
   clear hpk e1 e1' hp hty h1c ih
   unfold termOf at HC
   go_wp2_with fail
   refine HC.out.mono ?_
   rintro e w1 ⟨u,rfl,hu,hbw⟩
   have hu15:=hu.fifteen
   have hz1':wr.heap.size≤w1.heap.size:=hbw.size
   have hba:Below w1.heap.size w1 (w1.alloc (.cells u.toArray 32)):=bnew
   have hbx:Below wr.heap.size wr (w1.alloc (.cells u.toArray 32)):=hbw.trans (hba.mono hz1')
   have hS2:=hb.trans (hbx.mono hz)
   have hO2:=hO.below hbx
   obtain ⟨xs0,hown0,_⟩:=hO
   rw[hxl]at hown0
   have hu2:=fresh_of_newE (F:=fun b=>S b∨w.heap.size+2≤b) hu hba hz1' (fun b h=>.inr (Nat.le_trans hz h)) (fun b h=>⟨.inl h,by have:=hS b h;omega,by have:=hS b h;omega⟩) hown0
   obtain ⟨xs,hown,hx⟩:=hO2
   rw[hxl]at hown
   rw[hxl]at hx
   have hz3:w.heap.size+2≤(w1.alloc (.cells u.toArray 32)).heap.size:=by simp;omega
   have hu3:=hu
   obtain ⟨A3,c3,y3,rfl,-,-,-,hty3,-⟩:=hu3
   obtain ⟨p0,p1,p2,p3,p4,p5,p6,p7,p8,p9,p10,rfl,h1c⟩:=hty3.elevenS
   clear hu hty3
   unfold termOf
   go_wp2_with (at_builtin;go_must (refine wpList_append_lies _ rfl (.tmp 13) (.tmp 20) 22 rfl (w.heap.size+2) 32 i0 _ 15 216 Tryz.underlying22 hi0 hz0 hz1 hz2 rfl (by omega) (.slice A1 k c1) k xs rfl hown ⟨w1.heap.size,0,none⟩ 1 1 [.string op',.int .i64 a',.slice A3 l'.length c3,.string nm',p0,p1,p2,p3,p4,p5,p6,p7,p8,p9,p10] rfl rfl (news_at rfl) hu15.2 (by omega) (by simp only[maxLen];omega) (by omega) hz3 _ rfl ?_);intro g cap w2 hown2 hg2 hat hlt2)
   refine ⟨⟨k+1,rfl,hlt,hS2.grown hg2 hz3 (fun j hj=>(hown.lt j hj).1),?_⟩,?_⟩
   ·rw[HT.out];exact OwnE.snoc hxl hown hx hu2 hown2 hg2 hat
   ·simp[intOf];omega
  ·obtain rfl:k=l.length:=by omega
   rw[List.take_length]at hO ⊢
   obtain ⟨A2,c2,e2,hR⟩:=hO.read
   injection e2 with e2 _ e3
   subst e2;subst e3
   clear hO hp ih
   have qe2:∀o,wr.cell? ⟨w.heap.size+1,o,none⟩=((w.alloc (.cells #[.string op,.int .i64 a,.slice A l.length c,.string nm,m0,m1,m2,m3,m4,m5,m6,m7,m8,m9,m10] 32)).alloc (.cells #[.string ⟨#[]⟩,.int .i64 0,.slice none 0 0,.string ⟨#[]⟩,.int .i64 0,.bool false,.int .i64 0,.float .f64 0,.string ⟨#[]⟩,.slice none 0 0,.int .u64 0,.slice none 0 0,.slice none 0 0,.string ⟨#[]⟩,.int .i64 0] 32)).cell? ⟨w.heap.size+1,o,none⟩:=fun o=>hb.cell (p:=⟨w.heap.size+1,o,none⟩) (show w.heap.size+1<w.heap.size+2 by omega)
   have qf:∀o,wr.frozen? ⟨w.heap.size,o,none⟩=((w.alloc (.cells #[.string op,.int .i64 a,.slice A l.length c,.string nm,m0,m1,m2,m3,m4,m5,m6,m7,m8,m9,m10] 32)).alloc (.cells #[.string ⟨#[]⟩,.int .i64 0,.slice none 0 0,.string ⟨#[]⟩,.int .i64 0,.bool false,.int .i64 0,.float .f64 0,.string ⟨#[]⟩,.slice none 0 0,.int .u64 0,.slice none 0 0,.slice none 0 0,.string ⟨#[]⟩,.int .i64 0] 32)).frozen? ⟨w.heap.size,o,none⟩:=fun o=>hb.frozen (p:=⟨w.heap.size,o,none⟩) (show w.heap.size<w.heap.size+2 by omega)
   have qf2:∀o,wr.frozen? ⟨w.heap.size+1,o,none⟩=((w.alloc (.cells #[.string op,.int .i64 a,.slice A l.length c,.string nm,m0,m1,m2,m3,m4,m5,m6,m7,m8,m9,m10] 32)).alloc (.cells #[.string ⟨#[]⟩,.int .i64 0,.slice none 0 0,.string ⟨#[]⟩,.int .i64 0,.bool false,.int .i64 0,.float .f64 0,.string ⟨#[]⟩,.slice none 0 0,.int .u64 0,.slice none 0 0,.slice none 0 0,.string ⟨#[]⟩,.int .i64 0] 32)).frozen? ⟨w.heap.size+1,o,none⟩:=fun o=>hb.frozen (p:=⟨w.heap.size+1,o,none⟩) (show w.heap.size+1<w.heap.size+2 by omega)
   go_wp2
   have hfin:Below w.heap.size wr ((((((((((((((((wr.setCell ⟨w.heap.size,2,none⟩ (.slice A1 l.length c1)).setCell ⟨w.heap.size+1,0,none⟩ (.string op)).setCell ⟨w.heap.size+1,1,none⟩ (.int .i64 a)).setCell ⟨w.heap.size+1,2,none⟩ (.slice A1 l.length c1)).setCell ⟨w.heap.size+1,3,none⟩ (.string nm)).setCell ⟨w.heap.size+1,4,none⟩ m0).setCell ⟨w.heap.size+1,5,none⟩ m1).setCell ⟨w.heap.size+1,6,none⟩ m2).setCell ⟨w.heap.size+1,7,none⟩ m3).setCell ⟨w.heap.size+1,8,none⟩ m4).setCell ⟨w.heap.size+1,9,none⟩ m5).setCell ⟨w.heap.size+1,10,none⟩ m6).setCell ⟨w.heap.size+1,11,none⟩ m7).setCell ⟨w.heap.size+1,12,none⟩ m8).setCell ⟨w.heap.size+1,13,none⟩ m9).setCell ⟨w.heap.size+1,14,none⟩ m10):=((((((((((((((((Below.refl w.heap.size wr).setCell (p:=⟨w.heap.size,2,none⟩) (Nat.le_refl _) (.slice A1 l.length c1)).setCell (p:=⟨w.heap.size+1,0,none⟩) (Nat.le_succ _) (.string op)).setCell (p:=⟨w.heap.size+1,1,none⟩) (Nat.le_succ _) (.int .i64 a)).setCell (p:=⟨w.heap.size+1,2,none⟩) (Nat.le_succ _) (.slice A1 l.length c1)).setCell (p:=⟨w.heap.size+1,3,none⟩) (Nat.le_succ _) (.string nm)).setCell (p:=⟨w.heap.size+1,4,none⟩) (Nat.le_succ _) m0).setCell (p:=⟨w.heap.size+1,5,none⟩) (Nat.le_succ _) m1).setCell (p:=⟨w.heap.size+1,6,none⟩) (Nat.le_succ _) m2).setCell (p:=⟨w.heap.size+1,7,none⟩) (Nat.le_succ _) m3).setCell (p:=⟨w.heap.size+1,8,none⟩) (Nat.le_succ _) m4).setCell (p:=⟨w.heap.size+1,9,none⟩) (Nat.le_succ _) m5).setCell (p:=⟨w.heap.size+1,10,none⟩) (Nat.le_succ _) m6).setCell (p:=⟨w.heap.size+1,11,none⟩) (Nat.le_succ _) m7).setCell (p:=⟨w.heap.size+1,12,none⟩) (Nat.le_succ _) m8).setCell (p:=⟨w.heap.size+1,13,none⟩) (Nat.le_succ _) m9).setCell (p:=⟨w.heap.size+1,14,none⟩) (Nat.le_succ _) m10
   have hkeep:∀p:Addr,p.block≠w.heap.size→p.block≠w.heap.size+1→((((((((((((((((wr.setCell ⟨w.heap.size,2,none⟩ (.slice A1 l.length c1)).setCell ⟨w.heap.size+1,0,none⟩ (.string op)).setCell ⟨w.heap.size+1,1,none⟩ (.int .i64 a)).setCell ⟨w.heap.size+1,2,none⟩ (.slice A1 l.length c1)).setCell ⟨w.heap.size+1,3,none⟩ (.string nm)).setCell ⟨w.heap.size+1,4,none⟩ m0).setCell ⟨w.heap.size+1,5,none⟩ m1).setCell ⟨w.heap.size+1,6,none⟩ m2).setCell ⟨w.heap.size+1,7,none⟩ m3).setCell ⟨w.heap.size+1,8,none⟩ m4).setCell ⟨w.heap.size+1,9,none⟩ m5).setCell ⟨w.heap.size+1,10,none⟩ m6).setCell ⟨w.heap.size+1,11,none⟩ m7).setCell ⟨w.heap.size+1,12,none⟩ m8).setCell ⟨w.heap.size+1,13,none⟩ m9).setCell ⟨w.heap.size+1,14,none⟩ m10).cell? p=wr.cell? p:=by
    intro p h1 h2
    have g1:∀o,(⟨w.heap.size,o,none⟩:Addr)≠p:=fun o h=>h1 (by rw[←h])
    have g2:∀o,(⟨w.heap.size+1,o,none⟩:Addr)≠p:=fun o h=>h2 (by rw[←h])
    rw[World.cell?_setCell_other _ _ _ _ (g2 _),World.cell?_setCell_other _ _ _ _ (g2 _),World.cell?_setCell_other _ _ _ _ (g2 _),World.cell?_setCell_other _ _ _ _ (g2 _),World.cell?_setCell_other _ _ _ _ (g2 _),World.cell?_setCell_other _ _ _ _ (g2 _),World.cell?_setCell_other _ _ _ _ (g2 _),World.cell?_setCell_other _ _ _ _ (g2 _),World.cell?_setCell_other _ _ _ _ (g2 _),World.cell?_setCell_other _ _ _ _ (g2 _),World.cell?_setCell_other _ _ _ _ (g2 _),World.cell?_setCell_other _ _ _ _ (g2 _),World.cell?_setCell_other _ _ _ _ (g2 _),World.cell?_setCell_other _ _ _ _ (g2 _),World.cell?_setCell_other _ _ _ _ (g2 _),World.cell?_setCell_other _ _ _ _ (g1 _)]
   refine bodyPost_ret (v:=.agg #[.string op,.int .i64 a,.slice A1 l.length c1,.string nm,m0,m1,m2,m3,m4,m5,m6,m7,m8,m9,m10]) (by simp[results,Tryz.results9,go_sem,qe2]) rfl ?_
   generalize ((((((((((((((((wr.setCell ⟨w.heap.size,2,none⟩ (.slice A1 l.length c1)).setCell ⟨w.heap.size+1,0,none⟩ (.string op)).setCell ⟨w.heap.size+1,1,none⟩ (.int .i64 a)).setCell ⟨w.heap.size+1,2,none⟩ (.slice A1 l.length c1)).setCell ⟨w.heap.size+1,3,none⟩ (.string nm)).setCell ⟨w.heap.size+1,4,none⟩ m0).setCell ⟨w.heap.size+1,5,none⟩ m1).setCell ⟨w.heap.size+1,6,none⟩ m2).setCell ⟨w.heap.size+1,7,none⟩ m3).setCell ⟨w.heap.size+1,8,none⟩ m4).setCell ⟨w.heap.size+1,9,none⟩ m5).setCell ⟨w.heap.size+1,10,none⟩ m6).setCell ⟨w.heap.size+1,11,none⟩ m7).setCell ⟨w.heap.size+1,12,none⟩ m8).setCell ⟨w.heap.size+1,13,none⟩ m9).setCell ⟨w.heap.size+1,14,none⟩ m10)=W at *
   have hlt2:∀b,S b→b<w.heap.size:=hS
   have hbW:=hb0.trans hfin
   refine ⟨[.string op,.int .i64 a,.slice A1 l.length c1,.string nm,m0,m1,m2,m3,m4,m5,m6,m7,m8,m9,m10],rfl,⟨A1,c1,_,rfl,hop,ha,hnm,RdTS.more (fun b h=>.inl h) _ _ (RdTS.keep (fun p hp=>hbW.cell (hS _ hp)) _ _ HTY.out),hll,?_⟩,hbW⟩
   have hF:∀b,((S b∨w.heap.size+2≤b)∨w.heap.size+2≤b)∧b<wr.heap.size→b≠w.heap.size∧b≠w.heap.size+1∧(S b∨New w W b):=by
    rintro b ⟨(h|h)|h,hlt⟩
    ·have:=hS b h;exact ⟨by omega,by omega,.inl h⟩
    ·exact ⟨by omega,by omega,.inr ⟨by omega,Nat.lt_of_lt_of_le hlt hfin.size⟩⟩
    ·exact ⟨by omega,by omega,.inr ⟨by omega,Nat.lt_of_lt_of_le hlt hfin.size⟩⟩
   exact PartsS.more (PartsS.keep hR (fun p hp=>hkeep p (hF _ hp).1 (hF _ hp).2.1)) (fun b hb=>(hF b hb).2.2)
theorem exCopied_any (e:Ex):CopiedC e:=by
 induction e using Ex.ind with
 | h op a l nm t ih=>exact copied_step op a l nm t ih
end Go.Proofs.YtbemeapjeipjlaaGreatDoor
